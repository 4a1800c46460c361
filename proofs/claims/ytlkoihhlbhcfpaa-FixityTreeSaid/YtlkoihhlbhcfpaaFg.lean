import Derived.Test.YtlkoihhlbhcfpaaFf
namespace Go.Proofs.Ytlkoihhlbhcfpaa.Fx
open Go.RowKit Go.Proofs.Ytlkoihhlbhcfpaa.PFixityTree Go.Proofs.YtlkoihhlbhcfpaaW.PrintWords Go.Proofs.YtlkoihhlbhcfpaaW.PrintLast Go.Proofs.YtlkoihhlbhcfpaaW.PrintMore
set_option linter.unusedVariables false
set_option linter.unusedSimpArgs false

/-- Operands and operators take turns. -/
def OkIt (l : List S29) : Prop := ∀ k, k < l.length → ((rd_T29 l (k : Int)).f0.toList = [] ↔ k % 2 = 0)

set_option maxHeartbeats 4000000 in
set_option maxRecDepth 100000 in
theorem build_ck (T : List S42) (hT : T.length < 1000) (l : List S29) (A0 A1 : Option Addr) (c0 c1 : Nat) (w : World) (hr0 : Kd.C k42 w A0 T.length T) (hc0 : T.length ≤ c0) (hck : ¬ ck [] T = 0) :
    Calls Try.prog 4 #[.slice A0 T.length c0, .slice A1 l.length c1] w fun e w' => e = .returned (.tuple #[.slice none 0 0, .int .i64 (ck [] T)]) ∧ Below w.heap.size w w' := by
  generalize hcc : ck [] T = cc at hck ⊢
  have HCC := Go.Lib.hid hcc
  have HR0 := Go.Lib.hid hr0
  have h0 : (cc != 0) = true := bne_iff_ne.mpr hck
  have h1 : (cc == 0) = false := beq_eq_false_iff_ne.mpr hck
  clear hcc hr0 hck
  go_enter Try.func4, Try.ntmps4
  go_wp2_with fail
  refine (check_calls T w A0 c0 hT HR0.out hc0).mono ?_
  rintro e w1 ⟨rfl, hb1⟩
  rw [HCC.out]
  have HB1 := Go.Lib.hid hb1
  clear hb1
  go_wp2_with fail
  go_ret2
  exact ⟨rfl, HB1.out⟩

set_option maxHeartbeats 4000000 in
set_option maxRecDepth 100000 in
theorem build_even (T : List S42) (hT : T.length < 1000) (l : List S29) (hl : l.length ≤ 100) (A0 A1 : Option Addr) (c0 c1 : Nat) (w : World) (hr0 : Kd.C k42 w A0 T.length T) (hc0 : T.length ≤ c0) (hck : ck [] T = 0) (hev : l.length % 2 = 0) :
    Calls Try.prog 4 #[.slice A0 T.length c0, .slice A1 l.length c1] w fun e w' => e = .returned (.tuple #[.slice none 0 0, .int .i64 3]) ∧ Below w.heap.size w w' := by
  have HCC := Go.Lib.hid hck
  have HR0 := Go.Lib.hid hr0
  have HT := Go.Lib.hid hT
  have h0 : decide ((400 : Int) < (l.length : Int)) = false := decide_eq_false (by omega)
  have h1 : ((l.length : Int) % 2 == 0) = true := beq_iff_eq.mpr (by omega)
  have hl0 : (0 : Int) ≤ (l.length : Int) := by omega
  clear hck hr0 hev hl hT
  go_enter Try.func4, Try.ntmps4
  go_wp2_with fail
  refine (check_calls T w A0 c0 HT.out HR0.out hc0).mono ?_
  rintro e w1 ⟨rfl, hb1⟩
  rw [HCC.out]
  have HB1 := Go.Lib.hid hb1
  clear hb1
  go_wp2_with fail
  go_ret2
  exact ⟨rfl, HB1.out⟩

/-- What Build answers of a sequence in the right form. -/
def BuildPost (T : List S42) (l : List S29) (w : World) (e : Ending) (w' : World) : Prop :=
  (OkIt l ∧ ((∃ v t, R (hd l) (opl T l) t ∧ e = .returned (.tuple #[v, .int .i64 0]) ∧ Kd.R k35 35 w' w.heap.size (fun _ => True) v ((nodes t 0).map nd)) ∨ ((∀ t, ¬ R (hd l) (opl T l) t) ∧ e = .returned (.tuple #[.slice none 0 0, .int .i64 5])))) ∨
  (¬ OkIt l ∧ e = .returned (.tuple #[.slice none 0 0, .int .i64 3]))

theorem climb_some {T : List S42} {l : List S29} {m j' : Nat} (hl : l.length = 2 * m + 1) (hck : ∀ x ∈ T, ¬ x.f0.toList = [] ∧ 0 ≤ x.f1 ∧ x.f1 ≤ 2 ∧ 0 ≤ x.f2 ∧ x.f2 ≤ 9) {t : Fx.T} (h : CL 0 ⟨⟨#[]⟩, 0, -1, 0⟩ (rd_T29 l ((2 * 0 : Nat) : Int)).f1 ((opl T l).drop 0) (some (t, (opl T l).drop j'))) : R (hd l) (opl T l) t := by
  have hv := opl_lev (l := l) hck (l.drop 1)
  have := climb_top h rfl (fun x hx => (hv x (by rw [List.drop_zero] at hx; exact hx)).1) (fun x hx => by have := hv x (by rw [List.drop_zero] at hx; exact hx); omega)
  exact this.2
theorem climb_none {T : List S42} {l : List S29} {m : Nat} (hl : l.length = 2 * m + 1) (hck : ∀ x ∈ T, ¬ x.f0.toList = [] ∧ 0 ≤ x.f1 ∧ x.f1 ≤ 2 ∧ 0 ≤ x.f2 ∧ x.f2 ≤ 9) (h : CL 0 ⟨⟨#[]⟩, 0, -1, 0⟩ (rd_T29 l ((2 * 0 : Nat) : Int)).f1 ((opl T l).drop 0) none) : ∀ t, ¬ R (hd l) (opl T l) t := by
  have hv := opl_lev (l := l) hck (l.drop 1)
  exact climb_top h rfl (fun x hx => (hv x (by rw [List.drop_zero] at hx; exact hx)).1) (fun x hx => by have := hv x (by rw [List.drop_zero] at hx; exact hx); omega)

set_option maxHeartbeats 8000000 in
set_option maxRecDepth 100000 in
theorem build_odd (T : List S42) (hT : T.length < 1000) (l : List S29) (m : Nat) (hm : m ≤ 50) (hl : l.length = 2 * m + 1) (A0 A1 : Option Addr) (c0 c1 : Nat) (w : World) (hr0 : Kd.C k42 w A0 T.length T) (hc0 : T.length ≤ c0) (hr1 : Kd.C k29 w A1 l.length l) (hc1 : l.length ≤ c1) (hck : ck [] T = 0) :
    Calls Try.prog 4 #[.slice A0 T.length c0, .slice A1 l.length c1] w fun e w' => BuildPost T l w e w' ∧ Below w.heap.size w w' := by
  have HCC := Go.Lib.hid hck
  have HR0 := Go.Lib.hid hr0
  have HR1 := Go.Lib.hid hr1
  have HT := Go.Lib.hid hT
  have HL := Go.Lib.hid hl
  have h0 : decide ((400 : Int) < (l.length : Int)) = false := decide_eq_false (by omega)
  have h1 : ((l.length : Int) % 2 == 0) = false := beq_eq_false_iff_ne.mpr (by omega)
  have hl0 : (0 : Int) ≤ (l.length : Int) := by omega
  have hl1 : (l.length : Int) ≤ 101 := by omega
  clear hck hr0 hr1 hl hT
  go_enter Try.func4, Try.ntmps4
  go_wp2_with fail
  refine (check_calls T w A0 c0 HT.out HR0.out hc0).mono ?_
  rintro e w1 ⟨rfl, hb1⟩
  rw [HCC.out]
  have HB1 := Go.Lib.hid hb1
  clear hb1
  go_wp2_with fail
  go_loopg [27] l.length (fun k v27 wr => ∃ i : Nat, Hid (i + k = l.length) ∧ v27 = .int .i64 i ∧ Hid (∀ k, k < i → ((rd_T29 l (k : Int)).f0.toList = [] ↔ k % 2 = 0)) ∧ Hid (Below w.heap.size w wr))
  case atStart => exact ⟨0, Go.Lib.hid (by omega), rfl, Go.Lib.hid (fun k hk => by omega), HB1⟩
  case round =>
    obtain ⟨i, hi, rfl, hok, hb⟩ := hrel
    by_cases hlt : i < l.length
    · have hlt' : (i : Int) < (l.length : Int) := by omega
      obtain ⟨ad, rfl, x0, x1⟩ := at_T29 (Kd.C_below HR1.out hb.out) (i : Int) (by omega) hlt'
      rw [Int.toNat_natCast] at x0 x1
      obtain ⟨z, hz⟩ : ∃ z, z = rd_T29 l (i : Int) := ⟨_, rfl⟩
      rw [← hz] at x0 x1
      have HZ := Go.Lib.hid hz
      have HLT := Go.Lib.hid hlt
      have hi0 : (0 : Int) ≤ (i : Int) := by omega
      have hcase : ((z.f0.toList == ([] : List UInt8)) = true ∧ z.f0.toList = [] ∧ ((i : Int) % 2 == 0) = true ∧ i % 2 = 0) ∨ ((z.f0.toList == ([] : List UInt8)) = true ∧ z.f0.toList = [] ∧ ((i : Int) % 2 == 0) = false ∧ ¬ i % 2 = 0) ∨
          ((z.f0.toList == ([] : List UInt8)) = false ∧ ¬ z.f0.toList = [] ∧ ((i : Int) % 2 == 0) = true ∧ i % 2 = 0) ∨ ((z.f0.toList == ([] : List UInt8)) = false ∧ ¬ z.f0.toList = [] ∧ ((i : Int) % 2 == 0) = false ∧ ¬ i % 2 = 0) := by
        by_cases a : z.f0.toList = [] <;> by_cases b : i % 2 = 0
        · exact .inl ⟨beq_iff_eq.mpr a, a, beq_iff_eq.mpr (by omega), b⟩
        · exact .inr (.inl ⟨beq_iff_eq.mpr a, a, beq_eq_false_iff_ne.mpr (by omega), b⟩)
        · exact .inr (.inr (.inl ⟨beq_eq_false_iff_ne.mpr a, a, beq_iff_eq.mpr (by omega), b⟩))
        · exact .inr (.inr (.inr ⟨beq_eq_false_iff_ne.mpr a, a, beq_eq_false_iff_ne.mpr (by omega), b⟩))
      clear hz hlt
      rcases hcase with ⟨t1, a, t2, b⟩ | ⟨t1, a, t2, b⟩ | ⟨t1, a, t2, b⟩ | ⟨t1, a, t2, b⟩
      · have hnx : Hid (∀ k, k < i + 1 → ((rd_T29 l (k : Int)).f0.toList = [] ↔ k % 2 = 0)) := Go.Lib.hid (fun k hk => if e : k = i then by subst e; rw [← HZ.out]; exact ⟨fun _ => b, fun _ => a⟩ else hok.out k (by omega))
        clear b
        go_wp2_with fail
        go_roundg (gk - 1)
        case measure => have := hi.out; have := HLT.out; omega
        case rel => exact ⟨i + 1, Go.Lib.hid (by have := hi.out; have := HLT.out; omega), by go_num, hnx, Go.Lib.hid (hb.out.alloc hb.out.size _)⟩
      · have hno : Hid (¬ OkIt l) := Go.Lib.hid (fun h => b ((h i HLT.out).1 (by rw [← HZ.out]; exact a)))
        clear b
        go_wp2_with fail
        go_ret2
        exact ⟨.inr ⟨hno.out, rfl⟩, hb.out.alloc hb.out.size _⟩
      · have hno : Hid (¬ OkIt l) := Go.Lib.hid (fun h => a (by rw [HZ.out]; exact (h i HLT.out).2 b))
        clear b
        go_wp2_with fail
        go_ret2
        exact ⟨.inr ⟨hno.out, rfl⟩, hb.out.alloc hb.out.size _⟩
      · have hnx : Hid (∀ k, k < i + 1 → ((rd_T29 l (k : Int)).f0.toList = [] ↔ k % 2 = 0)) := Go.Lib.hid (fun k hk => if e : k = i then by subst e; rw [← HZ.out]; exact ⟨fun h => absurd h a, fun h => absurd h b⟩ else hok.out k (by omega))
        clear b
        go_wp2_with fail
        go_roundg (gk - 1)
        case measure => have := hi.out; have := HLT.out; omega
        case rel => exact ⟨i + 1, Go.Lib.hid (by have := hi.out; have := HLT.out; omega), by go_num, hnx, Go.Lib.hid (hb.out.alloc hb.out.size _)⟩
    · have hOK : Hid (OkIt l) := Go.Lib.hid (fun k hk => hok.out k (by have := hi.out; omega))
      have hlt' : ¬ (i : Int) < (l.length : Int) := by omega
      clear hlt
      go_wp2_with fail
      have hnew : Bld (wr.alloc (.cells #[.slice A0 T.length c0, .slice A1 l.length c1, .int .i64 0, .slice none 0 0, .int .i64 0] 39)) wr.heap.size (.slice A0 T.length c0) (.slice A1 l.length c1) (2 * ((0 : Nat) : Int)) (.slice none 0 0) 0 := by simpa [Bld] using blk_new wr (.cells #[.slice A0 T.length c0, .slice A1 l.length c1, .int .i64 0, .slice none 0 0, .int .i64 0] 39)
      have hbn : Below wr.heap.size wr (wr.alloc (.cells #[.slice A0 T.length c0, .slice A1 l.length c1, .int .i64 0, .slice none 0 0, .int .i64 0] 39)) := below_alloc (Below.refl _ _) _
      have hckk := Go.Lib.hid (ck_ok HCC.out)
      refine (climb_calls T HT.out l (fun x hx => ⟨(opl_lev (l := l) hckk.out (l.drop 1) x hx).1, (opl_lev (l := l) hckk.out (l.drop 1) x hx).2.1⟩) m (by omega) HL.out A0 A1 c0 c1 wr (Kd.C_below HR0.out hb.out) hc0 (Kd.C_below HR1.out hb.out) hc1 wr.heap.size (Nat.le_refl _) (m + 1) 0 0 ⟨⟨#[]⟩, 0, -1, 0⟩ (.slice none 0 0) [] _ (by omega) (by omega) (by simp) (by omega) (by omega) hbn hnew (Kd.R_nil _ _ _ _ _)).mono ?_
      rintro e w2 ⟨hcp, hf⟩
      have HB2 := Go.Lib.hid (hb.out.trans ((Frm.to_below hbn (Nat.le_refl _) hf).mono hb.out.size))
      have hbs := Go.Lib.hid (show w.heap.size ≤ wr.heap.size from hb.out.size)
      clear hf hbn hnew
      rcases hcp with ⟨t, j', ov, hCL, hj1, hj2, hsz, rfl, hB, hO⟩ | ⟨kk, at', ov, ys, hCL, rfl, hB, hO, hys⟩
      · have HR := Go.Lib.hid (climb_some HL.out hckk.out hCL)
        have HO := Go.Lib.hid (Kd.R_lower hO hbs.out)
        have k3 : w2.cell? ⟨wr.heap.size, 3, none⟩ = some ov := (blk_cell hB 3).trans rfl
        have k4 : w2.cell? ⟨wr.heap.size, 4, none⟩ = some (.int .i64 0) := (blk_cell hB 4).trans rfl
        clear hCL hj1 hj2 hsz hB hO
        go_wp2_with fail
        go_ret2
        exact ⟨.inl ⟨hOK.out, .inl ⟨ov, t, HR.out, rfl, HO.out⟩⟩, HB2.out⟩
      · have HR := Go.Lib.hid (climb_none HL.out hckk.out hCL)
        have k4 : w2.cell? ⟨wr.heap.size, 4, none⟩ = some (.int .i64 5) := (blk_cell hB 4).trans rfl
        clear hCL hys hB hO
        go_wp2_with fail
        go_quiet (fail)
        go_wp2_with fail
        go_ret2
        exact ⟨.inl ⟨hOK.out, .inr ⟨HR.out, rfl⟩⟩, pw_below_drewN HB2.out _⟩

/-- The one operand that the law begins with. -/
def one7 : List S29 := [⟨⟨#[]⟩, 7⟩]
theorem build_first (w : World) (g : Nat) (hg : w.heap[g]? = some (.cells #[.string ⟨#[]⟩, .int .i64 7] 29 (0, 0))) :
    Calls Try.prog 4 #[.slice none 0 0, .slice (some ⟨g, 0, none⟩) 1 1] w fun e w' => (∃ A c, e = .returned (.tuple #[.slice A 1 c, .int .i64 0])) ∧ Below w.heap.size w w' := by
  have hC : Kd.C k29 w (some ⟨g, 0, none⟩) one7.length one7 := by
    refine ⟨rfl, by decide, fun _ => ⟨⟨g, 0, none⟩, rfl, fun j p hj => ?_⟩⟩
    obtain ⟨rfl, rfl⟩ : j = 0 ∧ p = ⟨⟨#[]⟩, 7⟩ := by
      cases j with
      | zero => simpa [one7, eq_comm] using hj
      | succ j => simp [one7] at hj
    refine ⟨[.string ⟨#[]⟩, .int .i64 7], rfl, k29_mk w _, fun i u hu => ?_⟩
    rw [show 0 * k29.sz + i = i by simp, add_plain, blk_cell hg i]
    simpa using hu
  have h0 : Kd.C k42 w none ([] : List S42).length [] := ⟨rfl, by decide, fun h => by simp at h⟩
  refine (build_odd [] (by decide) one7 0 (by decide) rfl none (some ⟨g, 0, none⟩) 0 1 w h0 (by decide) hC (by decide) rfl).mono ?_
  rintro e w' ⟨hp, hb⟩
  refine ⟨?_, hb⟩
  have ho : opl [] one7 = [] := rfl
  rcases hp with ⟨_, ⟨v, t, hR, rfl, hO⟩ | ⟨hno, _⟩⟩ | ⟨hno, _⟩
  · obtain ⟨A, c, rfl⟩ := Kd.R_slice hO
    have hs := R_size hR
    rw [ho] at hs
    rw [List.length_map, nodes_length, hs]
    exact ⟨A, c, rfl⟩
  · exact absurd (.leaf _) (hno (.leaf (hd one7)))
  · refine absurd ?_ hno
    intro k hk
    obtain rfl : k = 0 := by simp [one7] at hk; exact hk
    exact ⟨fun _ => rfl, fun _ => by simp [rd_T29, one7]⟩
end Go.Proofs.Ytlkoihhlbhcfpaa.Fx
