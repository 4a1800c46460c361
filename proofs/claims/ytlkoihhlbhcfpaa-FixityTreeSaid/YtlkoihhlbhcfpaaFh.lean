import Derived.Test.YtlkoihhlbhcfpaaFg
import Derived.Test.YtlkoihhlbhcfpaaPFixityTreex4
namespace Go.Proofs.Ytlkoihhlbhcfpaa.Fx
open Go.RowKit Go.Proofs.Ytlkoihhlbhcfpaa.PFixityTree Go.Proofs.YtlkoihhlbhcfpaaW.PrintWords Go.Proofs.YtlkoihhlbhcfpaaW.PrintLast Go.Proofs.YtlkoihhlbhcfpaaW.PrintMore
set_option linter.unusedVariables false
set_option linter.unusedSimpArgs false

theorem fixErr (T : List S42) (hT : T.length < 1000) (A : Option Addr) (c : Nat) (W : World) (hC : Kd.C k42 W A T.length T) (hc : T.length ≤ c) :
    Calls Try.prog 5 #[.slice A T.length c] W fun e w' => e = .returned (.int .i64 (ck [] T)) ∧ Below W.heap.size W w' := by
  obtain ⟨k, h⟩ := fixError_f T hT
  exact provenancelaw1_fixError.calls k A c T _ W hC hc h

/-- slices.Equal of a list with itself. -/
theorem equal_from (xs : List S35) (hx : xs.length < 1000) : ∀ (d i k : Nat), i + d = xs.length → d < k → api_FixityNode.l0 k xs xs (xs.length : Int) (i : Int) = some true := by
  intro d
  induction d with
  | zero =>
    intro i k hi hk
    obtain ⟨k, rfl⟩ : ∃ m, k = m + 1 := ⟨k - 1, by omega⟩
    simp only [api_FixityNode.l0]
    rw [if_neg (by omega)]
  | succ d ih =>
    intro i k hi hk
    obtain ⟨k, rfl⟩ : ∃ m, k = m + 1 := ⟨k - 1, by omega⟩
    simp only [api_FixityNode.l0]
    rw [if_pos (by omega), if_pos (by omega), if_pos (by omega), if_pos (by omega), if_neg (by simp), w64i i (by omega), ih (i + 1) k (by omega) (by omega)]
theorem equal_calls (xs : List S35) (hx : xs.length < 1000) (A B : Option Addr) (c d : Nat) (w : World) (hA : Kd.C k35 w A xs.length xs) (hc : xs.length ≤ c) (hB : Kd.C k35 w B xs.length xs) (hd : xs.length ≤ d) :
    Calls Try.prog 8 #[.slice A xs.length c, .slice B xs.length d] w fun e w' => e = .returned (.bool true) ∧ Drawn0 w w' :=
  api_FixityNode.calls (xs.length + 1) A c xs B d xs true w hA hc hB hd (by unfold api_FixityNode.f; rw [if_pos rfl]; exact equal_from xs hx xs.length 0 _ (by omega) (by omega))

set_option maxHeartbeats 4000000 in
set_option maxRecDepth 100000 in
theorem law_big (T : List S42) (l : List S29) (A0 A1 : Option Addr) (c0 c1 : Nat) (w : World) (h : 40 < T.length ∨ 60 < l.length) :
    Calls Try.prog 3 #[.slice A0 T.length c0, .slice A1 l.length c1] w fun e w' => e = .returned (.bool true) ∧ Below w.heap.size w w' := by
  have hcase : decide ((40 : Int) < (T.length : Int)) = true ∨ (decide ((40 : Int) < (T.length : Int)) = false ∧ decide ((60 : Int) < (l.length : Int)) = true) := by
    by_cases h1 : 40 < T.length
    · exact .inl (decide_eq_true (by omega))
    · exact .inr ⟨decide_eq_false (by omega), decide_eq_true (by omega)⟩
  clear h
  rcases hcase with a | ⟨a, b⟩
  all_goals
    go_enter Try.func3, Try.ntmps3
    go_wp2_with fail
    refine (build_first _ w.heap.size (blk_new w _)).mono ?_
    rintro e w1 ⟨⟨A, c, rfl⟩, hb1⟩
    have HB1 := Go.Lib.hid ((below_alloc (Below.refl w.heap.size w) _).trans (hb1.mono (by simp)))
    clear hb1
    go_wp2_with fail
    go_ret
    exact ⟨rfl, HB1.out⟩

set_option maxHeartbeats 8000000 in
set_option maxRecDepth 100000 in
theorem law_err (T : List S42) (hT : T.length ≤ 40) (l : List S29) (hl : l.length ≤ 60) (A0 A1 : Option Addr) (c0 c1 : Nat) (w : World) (hr0 : Kd.C k42 w A0 T.length T) (hc0 : T.length ≤ c0) (hr1 : Kd.C k29 w A1 l.length l) (hc1 : l.length ≤ c1) (hck : ¬ ck [] T = 0 ∨ l.length % 2 = 0) :
    Calls Try.prog 3 #[.slice A0 T.length c0, .slice A1 l.length c1] w fun e w' => e = .returned (.bool true) ∧ Below w.heap.size w w' := by
  have a : decide ((40 : Int) < (T.length : Int)) = false := decide_eq_false (by omega)
  have b : decide ((60 : Int) < (l.length : Int)) = false := decide_eq_false (by omega)
  have hT' : T.length < 1000 := by omega
  have hl0 : (0 : Int) ≤ (l.length : Int) := by omega
  have hl1 : (l.length : Int) ≤ 60 := by omega
  have HR0 := Go.Lib.hid hr0
  have HR1 := Go.Lib.hid hr1
  have HT := Go.Lib.hid hT'
  -- the error
  have hbld : ∃ er : Int, er ≠ 0 ∧ ((er = ck [] T) ∨ (ck [] T = 0 ∧ er = 3 ∧ l.length % 2 = 0)) ∧ ∀ W : World, Below w.heap.size w W → Calls Try.prog 4 #[.slice A0 T.length c0, .slice A1 l.length c1] W fun e w' => e = .returned (.tuple #[.slice none 0 0, .int .i64 er]) ∧ Below W.heap.size W w' := by
    by_cases hk : ck [] T = 0
    · have hev : l.length % 2 = 0 := by rcases hck with h | h; exact absurd hk h; exact h
      exact ⟨3, by decide, .inr ⟨hk, rfl, hev⟩, fun W hb => build_even T HT.out l (by omega) A0 A1 c0 c1 W (Kd.C_below HR0.out hb) hc0 hk hev⟩
    · exact ⟨ck [] T, hk, .inl rfl, fun W hb => build_ck T HT.out l A0 A1 c0 c1 W (Kd.C_below HR0.out hb) hc0 hk⟩
  obtain ⟨er, her, hcase, hbl⟩ := hbld
  have HBL := Go.Lib.hid hbl
  have e0 : (er == 0) = false := beq_eq_false_iff_ne.mpr her
  have e1 : (er != 0) = true := bne_iff_ne.mpr her
  generalize hcc : ck [] T = cc at hcase
  have HCC := Go.Lib.hid hcc
  clear hr0 hr1 hT' hbl her hcc hck hT hl
  go_enter Try.func3, Try.ntmps3
  go_wp2_with fail
  refine (build_first _ w.heap.size (blk_new w _)).mono ?_
  rintro e w1 ⟨⟨A, c, rfl⟩, hb1⟩
  have HB1 := Go.Lib.hid ((below_alloc (Below.refl w.heap.size w) _).trans (hb1.mono (by simp)))
  clear hb1
  go_wp2_with fail
  refine (HBL.out w1 HB1.out).mono ?_
  rintro e w2 ⟨rfl, hb2⟩
  have HB2 := Go.Lib.hid (HB1.out.trans (hb2.mono HB1.out.size))
  clear hb2
  go_wp2_with fail
  refine (fixErr T HT.out A0 c0 w2 (Kd.C_below HR0.out HB2.out) hc0).mono ?_
  rintro e w3 ⟨rfl, hb3⟩
  rw [HCC.out]
  have HB3 := Go.Lib.hid (HB2.out.trans (hb3.mono HB2.out.size))
  clear hb3
  go_wp2_with fail
  refine (check_calls T w3 A0 c0 HT.out (Kd.C_below HR0.out HB3.out) hc0).mono ?_
  rintro e w4 ⟨rfl, hb4⟩
  rw [HCC.out]
  have HB4 := Go.Lib.hid (HB3.out.trans (hb4.mono HB3.out.size))
  clear hb4
  have hcase2 : (er = cc ∧ (cc == 0) = false) ∨ (cc = 0 ∧ er = 3 ∧ ((l.length : Int) % 2 == 0) = true) := by
    rcases hcase with h | ⟨h1, h2, h3⟩
    · exact .inl ⟨h, by rw [← h]; exact e0⟩
    · exact .inr ⟨h1, h2, beq_iff_eq.mpr (by omega)⟩
  clear hcase
  rcases hcase2 with ⟨rfl, hz⟩ | ⟨rfl, rfl, hz⟩
  · have hee : (er == er) = true := beq_self_eq_true er
    go_wp2_with fail
    go_loopg [9, 57] l.length (fun k v9 v57 wr => ∃ i : Nat, Hid (i + k = l.length) ∧ v9 = .int .i64 er ∧ v57 = .int .i64 i ∧ Hid (Below w.heap.size w wr))
    case atStart => exact ⟨0, Go.Lib.hid (by omega), rfl, rfl, HB4⟩
    case round =>
      obtain ⟨i, hi, rfl, rfl, hb⟩ := hrel
      by_cases hlt : i < l.length
      · have hlt' : (i : Int) < (l.length : Int) := by omega
        obtain ⟨ad, rfl, x0, x1⟩ := at_T29 (Kd.C_below HR1.out hb.out) (i : Int) (by omega) hlt'
        rw [Int.toNat_natCast] at x0 x1
        generalize rd_T29 l (i : Int) = z at *
        have HLT := Go.Lib.hid hlt
        clear hlt
        go_wp2_with fail
        go_roundg (gk - 1)
        case measure => have := hi.out; have := HLT.out; omega
        case rel => exact ⟨i + 1, Go.Lib.hid (by have := hi.out; have := HLT.out; omega), rfl, by go_num, Go.Lib.hid (hb.out.alloc hb.out.size _)⟩
      · have hlt' : ¬ (i : Int) < (l.length : Int) := by omega
        clear hlt
        go_wp2_with fail
        go_ret
        exact ⟨rfl, hb.out⟩
  · skip
    go_wp2_with fail
    go_loopg [9, 57] l.length (fun k v9 v57 wr => ∃ i : Nat, Hid (i + k = l.length) ∧ v9 = .int .i64 3 ∧ v57 = .int .i64 i ∧ Hid (Below w.heap.size w wr))
    case atStart => exact ⟨0, Go.Lib.hid (by omega), rfl, rfl, HB4⟩
    case round =>
      obtain ⟨i, hi, rfl, rfl, hb⟩ := hrel
      by_cases hlt : i < l.length
      · have hlt' : (i : Int) < (l.length : Int) := by omega
        obtain ⟨ad, rfl, x0, x1⟩ := at_T29 (Kd.C_below HR1.out hb.out) (i : Int) (by omega) hlt'
        rw [Int.toNat_natCast] at x0 x1
        generalize rd_T29 l (i : Int) = z at *
        have HLT := Go.Lib.hid hlt
        clear hlt
        go_wp2_with fail
        go_roundg (gk - 1)
        case measure => have := hi.out; have := HLT.out; omega
        case rel => exact ⟨i + 1, Go.Lib.hid (by have := hi.out; have := HLT.out; omega), rfl, by go_num, Go.Lib.hid (hb.out.alloc hb.out.size _)⟩
      · have hlt' : ¬ (i : Int) < (l.length : Int) := by omega
        clear hlt
        go_wp2_with fail
        go_ret
        exact ⟨rfl, hb.out⟩

set_option maxHeartbeats 16000000 in
set_option maxRecDepth 100000 in
theorem law_odd (T : List S42) (hT : T.length ≤ 40) (l : List S29) (m : Nat) (hm : m ≤ 30) (hl : l.length = 2 * m + 1) (hl60 : l.length ≤ 60) (A0 A1 : Option Addr) (c0 c1 : Nat) (w : World) (hr0 : Kd.C k42 w A0 T.length T) (hc0 : T.length ≤ c0) (hr1 : Kd.C k29 w A1 l.length l) (hc1 : l.length ≤ c1) (hck : ck [] T = 0) :
    Calls Try.prog 3 #[.slice A0 T.length c0, .slice A1 l.length c1] w fun e w' => e = .returned (.bool true) ∧ Below w.heap.size w w' := by
  have a : decide ((40 : Int) < (T.length : Int)) = false := decide_eq_false (by omega)
  have b : decide ((60 : Int) < (l.length : Int)) = false := decide_eq_false (by omega)
  have hT' : T.length < 1000 := by omega
  have hl0 : (0 : Int) ≤ (l.length : Int) := by omega
  have hl1 : (l.length : Int) ≤ 60 := by omega
  have hz : ((l.length : Int) % 2 == 0) = false := beq_eq_false_iff_ne.mpr (by omega)
  have HR0 := Go.Lib.hid hr0
  have HR1 := Go.Lib.hid hr1
  have HT := Go.Lib.hid hT'
  have HL := Go.Lib.hid hl
  have HM := Go.Lib.hid hm
  have HCC := Go.Lib.hid hck
  clear hr0 hr1 hT' hck hT hl hl60 hm
  go_enter Try.func3, Try.ntmps3
  go_wp2_with fail
  refine (build_first _ w.heap.size (blk_new w _)).mono ?_
  rintro e w1 ⟨⟨A, c, rfl⟩, hb1⟩
  have HB1 := Go.Lib.hid ((below_alloc (Below.refl w.heap.size w) _).trans (hb1.mono (by simp)))
  clear hb1
  go_wp2_with fail
  refine (build_odd T HT.out l m (by have := HM.out; omega) HL.out A0 A1 c0 c1 w1 (Kd.C_below HR0.out HB1.out) hc0 (Kd.C_below HR1.out HB1.out) hc1 HCC.out).mono ?_
  rintro e w2 ⟨hbp, hb2⟩
  have HB2 := Go.Lib.hid (HB1.out.trans (hb2.mono HB1.out.size))
  clear hb2
  -- the tree and the error
  have hval : ∃ (A2 : Option Addr) (n2 c2 : Nat) (er : Int), e = .returned (.tuple #[.slice A2 n2 c2, .int .i64 er]) ∧ ((OkIt l ∧ er = 0 ∧ ∃ t, R (hd l) (opl T l) t ∧ n2 = ((nodes t 0).map nd).length ∧ Kd.R k35 35 w2 w1.heap.size (fun _ => True) (.slice A2 n2 c2) ((nodes t 0).map nd)) ∨ (OkIt l ∧ er = 5 ∧ n2 = 0 ∧ ∀ t, ¬ R (hd l) (opl T l) t) ∨ (¬ OkIt l ∧ er = 3 ∧ n2 = 0)) := by
    rcases hbp with ⟨hok, ⟨v, t, hR, rfl, hO⟩ | ⟨hno, rfl⟩⟩ | ⟨hno, rfl⟩
    · obtain ⟨A2, c2, rfl⟩ := Kd.R_slice hO
      exact ⟨A2, _, c2, 0, rfl, .inl ⟨hok, rfl, t, hR, rfl, hO⟩⟩
    · exact ⟨none, 0, 0, 5, rfl, .inr (.inl ⟨hok, rfl, rfl, hno⟩)⟩
    · exact ⟨none, 0, 0, 3, rfl, .inr (.inr ⟨hno, rfl, rfl⟩)⟩
  obtain ⟨A2, n2, c2, er, rfl, hres⟩ := hval
  have HRES := Go.Lib.hid hres
  clear hbp hres
  go_wp2_with fail
  refine (fixErr T HT.out A0 c0 w2 (Kd.C_below HR0.out HB2.out) hc0).mono ?_
  rintro e w3 ⟨rfl, hb3⟩
  rw [HCC.out]
  have HB3 := Go.Lib.hid (HB2.out.trans (hb3.mono HB2.out.size))
  have HN3 := Go.Lib.hid hb3
  clear hb3
  go_wp2_with fail
  refine (check_calls T w3 A0 c0 HT.out (Kd.C_below HR0.out HB3.out) hc0).mono ?_
  rintro e w4 ⟨rfl, hb4⟩
  rw [HCC.out]
  have HB4 := Go.Lib.hid (HB3.out.trans (hb4.mono HB3.out.size))
  have HN4 := Go.Lib.hid (HN3.out.trans (hb4.mono HN3.out.size))
  clear hb4
  go_wp2_with fail
  go_loopg [9, 57] l.length (fun k v9 v57 wr => ∃ (i : Nat) (wv : Int), Hid (i + k = l.length) ∧ v57 = .int .i64 i ∧ v9 = .int .i64 wv ∧ Hid ((wv = 0 ∧ ∀ k, k < i → ((rd_T29 l (k : Int)).f0.toList = [] ↔ k % 2 = 0)) ∨ (wv = 3 ∧ ¬ OkIt l)) ∧ Hid (Below w.heap.size w wr) ∧ Hid (Below w2.heap.size w2 wr))
  case atStart => exact ⟨0, 0, Go.Lib.hid (by omega), rfl, rfl, Go.Lib.hid (.inl ⟨rfl, fun k hk => by omega⟩), HB4, HN4⟩
  case round =>
    obtain ⟨i, wv, hi, rfl, rfl, hwv, hb, hn⟩ := hrel
    by_cases hlt : i < l.length
    · have hlt' : (i : Int) < (l.length : Int) := by omega
      obtain ⟨ad, rfl, x0, x1⟩ := at_T29 (Kd.C_below HR1.out hb.out) (i : Int) (by omega) hlt'
      rw [Int.toNat_natCast] at x0 x1
      obtain ⟨z, hzz⟩ : ∃ z, z = rd_T29 l (i : Int) := ⟨_, rfl⟩
      rw [← hzz] at x0 x1
      have HZ := Go.Lib.hid hzz
      have HLT := Go.Lib.hid hlt
      have hi0 : (0 : Int) ≤ (i : Int) := by omega
      have hcase : (wv == 0) = false ∧ (wv = 3 ∧ ¬ OkIt l) ∨ ((wv == 0) = true ∧ wv = 0 ∧ (∀ k, k < i → ((rd_T29 l (k : Int)).f0.toList = [] ↔ k % 2 = 0)) ∧
          (((z.f0.toList == ([] : List UInt8)) = true ∧ z.f0.toList = [] ∧ ((i : Int) % 2 == 1) = false ∧ i % 2 = 0) ∨ ((z.f0.toList == ([] : List UInt8)) = true ∧ z.f0.toList = [] ∧ ((i : Int) % 2 == 1) = true ∧ ¬ i % 2 = 0) ∨
          ((z.f0.toList == ([] : List UInt8)) = false ∧ ¬ z.f0.toList = [] ∧ ((i : Int) % 2 == 1) = false ∧ i % 2 = 0) ∨ ((z.f0.toList == ([] : List UInt8)) = false ∧ ¬ z.f0.toList = [] ∧ ((i : Int) % 2 == 1) = true ∧ ¬ i % 2 = 0))) := by
        rcases hwv.out with ⟨h1, h2⟩ | h
        · refine .inr ⟨beq_iff_eq.mpr h1, h1, h2, ?_⟩
          by_cases a : z.f0.toList = [] <;> by_cases b : i % 2 = 0
          · exact .inl ⟨beq_iff_eq.mpr a, a, beq_eq_false_iff_ne.mpr (by omega), b⟩
          · exact .inr (.inl ⟨beq_iff_eq.mpr a, a, beq_iff_eq.mpr (by omega), b⟩)
          · exact .inr (.inr (.inl ⟨beq_eq_false_iff_ne.mpr a, a, beq_eq_false_iff_ne.mpr (by omega), b⟩))
          · exact .inr (.inr (.inr ⟨beq_eq_false_iff_ne.mpr a, a, beq_iff_eq.mpr (by omega), b⟩))
        · exact .inl ⟨beq_eq_false_iff_ne.mpr (by omega), h⟩
      clear hzz hlt
      rcases hcase with ⟨t0, hw3⟩ | ⟨t0, hw0, hall, ⟨t1, a, t2, b⟩ | ⟨t1, a, t2, b⟩ | ⟨t1, a, t2, b⟩ | ⟨t1, a, t2, b⟩⟩
      · have HW := Go.Lib.hid hw3
        clear hw3
        go_wp2_with fail
        go_roundg (gk - 1)
        case measure => have := hi.out; have := HLT.out; omega
        case rel => exact ⟨i + 1, wv, Go.Lib.hid (by have := hi.out; have := HLT.out; omega), by go_num, rfl, Go.Lib.hid (.inr HW.out), Go.Lib.hid (hb.out.alloc hb.out.size _), Go.Lib.hid (hn.out.alloc hn.out.size _)⟩
      · have HW := Go.Lib.hid hw0
        have hnx : Hid (∀ k, k < i + 1 → ((rd_T29 l (k : Int)).f0.toList = [] ↔ k % 2 = 0)) := Go.Lib.hid (fun k hk => if e : k = i then by subst e; rw [← HZ.out]; exact ⟨fun _ => b, fun _ => a⟩ else hall k (by omega))
        clear b hw0 hall
        go_wp2_with fail
        go_roundg (gk - 1)
        case measure => have := hi.out; have := HLT.out; omega
        case rel => exact ⟨i + 1, wv, Go.Lib.hid (by have := hi.out; have := HLT.out; omega), by go_num, rfl, Go.Lib.hid (.inl ⟨HW.out, hnx.out⟩), Go.Lib.hid (hb.out.alloc hb.out.size _), Go.Lib.hid (hn.out.alloc hn.out.size _)⟩
      · have hno : Hid (¬ OkIt l) := Go.Lib.hid (fun h => b ((h i HLT.out).1 (by rw [← HZ.out]; exact a)))
        clear b hw0 hall
        go_wp2_with fail
        go_roundg (gk - 1)
        case measure => have := hi.out; have := HLT.out; omega
        case rel => exact ⟨i + 1, 3, Go.Lib.hid (by have := hi.out; have := HLT.out; omega), by go_num, rfl, Go.Lib.hid (.inr ⟨rfl, hno.out⟩), Go.Lib.hid (hb.out.alloc hb.out.size _), Go.Lib.hid (hn.out.alloc hn.out.size _)⟩
      · have hno : Hid (¬ OkIt l) := Go.Lib.hid (fun h => a (by rw [HZ.out]; exact (h i HLT.out).2 b))
        clear b hw0 hall
        go_wp2_with fail
        go_roundg (gk - 1)
        case measure => have := hi.out; have := HLT.out; omega
        case rel => exact ⟨i + 1, 3, Go.Lib.hid (by have := hi.out; have := HLT.out; omega), by go_num, rfl, Go.Lib.hid (.inr ⟨rfl, hno.out⟩), Go.Lib.hid (hb.out.alloc hb.out.size _), Go.Lib.hid (hn.out.alloc hn.out.size _)⟩
      · have HW := Go.Lib.hid hw0
        have hnx : Hid (∀ k, k < i + 1 → ((rd_T29 l (k : Int)).f0.toList = [] ↔ k % 2 = 0)) := Go.Lib.hid (fun k hk => if e : k = i then by subst e; rw [← HZ.out]; exact ⟨fun h => absurd h a, fun h => absurd h b⟩ else hall k (by omega))
        clear b hw0 hall
        go_wp2_with fail
        go_roundg (gk - 1)
        case measure => have := hi.out; have := HLT.out; omega
        case rel => exact ⟨i + 1, wv, Go.Lib.hid (by have := hi.out; have := HLT.out; omega), by go_num, rfl, Go.Lib.hid (.inl ⟨HW.out, hnx.out⟩), Go.Lib.hid (hb.out.alloc hb.out.size _), Go.Lib.hid (hn.out.alloc hn.out.size _)⟩
    · have hlt' : ¬ (i : Int) < (l.length : Int) := by omega
      have hwv2 : (wv = 0 ∧ OkIt l) ∨ (wv = 3 ∧ ¬ OkIt l) := by
        rcases hwv.out with ⟨h1, h2⟩ | h
        · exact .inl ⟨h1, fun k hk => h2 k (by have := hi.out; omega)⟩
        · exact .inr h
      clear hlt
      rcases hwv2 with ⟨rfl, hOK⟩ | ⟨rfl, hno⟩
      · have HOK := Go.Lib.hid hOK
        clear hOK
        have HN := Go.Lib.hid (show Nam l from fun j hj h => by have := (HOK.out (2 * j + 1) hj).1 h; omega)
        go_wp2_with fail
        refine (operators_calls T HT.out (ck_ok HCC.out) m m l A0 A1 c0 c1 wr (Nat.le_refl _) (by have := HM.out; omega) HL.out HN.out (Kd.C_below HR0.out hb.out) hc0 (Kd.C_below HR1.out hb.out) hc1).mono ?_
        rintro e w6 ⟨hop, hb6⟩
        have HB6 := Go.Lib.hid (hb.out.trans (hb6.mono hb.out.size))
        have HN6 := Go.Lib.hid (hn.out.trans (hb6.mono hn.out.size))
        clear hb6
        rcases hop with ⟨v, t', hR', rfl, hO'⟩ | ⟨hno, rfl⟩
        · obtain ⟨rfl, hn2, hO2⟩ : er = 0 ∧ n2 = ((nodes t' 0).map nd).length ∧ Kd.R k35 35 w2 w1.heap.size (fun _ => True) (.slice A2 n2 c2) ((nodes t' 0).map nd) := by
            rcases HRES.out with ⟨_, h1, t, hR, h2, h3⟩ | ⟨_, _, _, h⟩ | ⟨h, _⟩
            · obtain rfl := R_det hR hR'
              exact ⟨h1, h2, h3⟩
            · exact absurd hR' (h t')
            · exact absurd HOK.out h
          have hxl := Go.Lib.hid (show ((nodes t' 0).map nd).length < 1000 by
            rw [List.length_map, nodes_length, R_size hR', opl_length HL.out]; have := HM.out; omega)
          obtain ⟨A3, c3, rfl⟩ := Kd.R_slice hO'
          generalize (nodes t' 0).map nd = xs at *
          subst hn2
          have hA := Kd.R_reads' hO2
          have hB := Kd.R_reads' hO'
          have HA := Go.Lib.hid (Kd.C_below hA.2.2 HN6.out)
          have HBB := Go.Lib.hid hB.2.2
          have hca := hA.2.1
          have hcb := hB.2.1
          clear hR' hO' hO2 hA hB HRES
          go_wp2_with fail
          refine (equal_calls xs hxl.out A2 A3 c2 c3 w6 HA.out hca HBB.out hcb).mono ?_
          rintro e w7 ⟨rfl, hd7⟩
          have HB7 := Go.Lib.hid (HB6.out.trans (hd7.below.mono HB6.out.size))
          clear hd7
          go_wp2_with fail
          go_ret
          exact ⟨rfl, HB7.out⟩
        · obtain ⟨rfl, rfl⟩ : er = 5 ∧ n2 = 0 := by
            rcases HRES.out with ⟨_, _, t, hR, _⟩ | ⟨_, h1, h2, _⟩ | ⟨h, _⟩
            · exact absurd hR (hno t)
            · exact ⟨h1, h2⟩
            · exact absurd HOK.out h
          clear hno HRES
          go_wp2_with fail
          go_ret
          exact ⟨rfl, HB6.out⟩
      · obtain ⟨rfl, rfl⟩ : er = 3 ∧ n2 = 0 := by
          rcases HRES.out with ⟨h, _⟩ | ⟨h, _⟩ | ⟨_, h⟩
          · exact absurd h hno
          · exact absurd h hno
          · exact h
        clear hno
        go_wp2_with fail
        go_ret
        exact ⟨rfl, hb.out⟩

theorem law_calls (T : List S42) (l : List S29) (A0 A1 : Option Addr) (c0 c1 : Nat) (w : World) (hr0 : Kd.C k42 w A0 T.length T) (hc0 : T.length ≤ c0) (hr1 : Kd.C k29 w A1 l.length l) (hc1 : l.length ≤ c1) :
    Calls Try.prog 3 #[.slice A0 T.length c0, .slice A1 l.length c1] w fun e w' => e = .returned (.bool true) ∧ Below w.heap.size w w' := by
  by_cases h : 40 < T.length ∨ 60 < l.length
  · exact law_big T l A0 A1 c0 c1 w h
  · by_cases hck : ¬ ck [] T = 0 ∨ l.length % 2 = 0
    · exact law_err T (by omega) l (by omega) A0 A1 c0 c1 w hr0 hc0 hr1 hc1 hck
    · exact law_odd T (by omega) l (l.length / 2) (by omega) (by omega) (by omega) A0 A1 c0 c1 w hr0 hc0 hr1 hc1 (Decidable.byContradiction fun h => hck (.inl h))
end Go.Proofs.Ytlkoihhlbhcfpaa.Fx
