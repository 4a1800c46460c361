/- The reference's closure. -/
import Derived.Test.YtchbjjefjmcakaaLn
namespace Go.Proofs.Ytchbjjefjmcakaa.Lb
open Go.RowKit Go.Proofs.Ytchbjjefjmcakaa.PLayoutBlocks Go.Proofs.YtchbjjefjmcakaaW.PrintWords Go.Proofs.YtchbjjefjmcakaaW.PrintLast Go.Proofs.YtchbjjefjmcakaaW.PrintMore
set_option linter.unusedVariables false
set_option linter.unusedSimpArgs false
section
variable {P : Program} {w : World} {ops : Array Oper} {Q : Exit → Act → World → Prop}
/-- A call of a function's name as a value. -/
theorem goesF_ {oi : Oper} {N : Option Tmp} {a : Act} {K : Act → World → Prop} {f : FuncId} {fn : Func} {ars : Array Operand} {ts : Array TypeId} (hf : P.funcs[f]? = some fn) (hname : (fn.name == "runtime.NumGoroutine") = false) (hb : fn.body.isSome = true) (args : Array Value)
    (hw : Region.wanted oi (yielded ops a.tmps) = true) (hN : oi.dst = N) (hop : oi.op = .call { callee := .value (.func f), args := ars, argTypes := ts }) (hargs : ars.map a.eval = args)
    (h : Calls P f args w fun e w' => ∃ v, e = .returned v ∧ K (a.put N v) w') : if Region.wanted oi (yielded ops a.tmps) = true then Oper.wp P oi a w K Q else K (a.put N undef) w := by
  refine call_ f args hw hN ?_ h
  have he := enters_ hf hname hb args w
  have hv : a.eval (.func f) = .func (.func f) #[] #[] := rfl
  unfold execOp
  simp [hop, resolve, Deferred.ofValue, invoke, hv, hargs, he]
end
def clo.T3 : Bool × List (List Nat × List Nat) := (true, [([], []), ([], []), ([1], [1]), ([2], [2]), ([0, 3, 2], [0, 3]), ([4, 4, 0, 1, 2, 3, 4], [4])])
def clo.B3 : List Nat := [0, 0, 2, 6, 15, 31]
theorem clo.tab3 : rtab .any (opsOf Try.f17 3) = clo.T3 := by kernel_rfl
theorem clo.bits3 : waitsOk clo.T3.2 clo.B3 = true := by kernel_rfl
set_option maxHeartbeats 16000000 in
set_option maxRecDepth 100000 in
theorem cl17 {p : Pm} {go gs : Nat} (hm : Rfr p go gs) (t : S27) (m : Nat) {z0 : List Fr} {y0 : List S27} {W : World} (h : TwoE p z0 y0 W) (hn : m ≤ z0.length) (hl : y0.length + z0.length < 1000000) :
    Calls Try.prog 17 #[.int .i64 m, tV t, .pointer (some ⟨go, 0, none⟩), .pointer (some ⟨gs, 0, none⟩)] W fun e w' => e = .returned (.tuple #[]) ∧ TwoE p (z0.take (z0.length - m)) (y0 ++ List.replicate m (vt 7 t)) w' := by
  have HM := Go.Lib.hid hm
  have HI := Go.Lib.hid (In.start (t := t) h)
  have HT0 := Go.Lib.hid h
  have HL := Go.Lib.hid hl
  have HNN := Go.Lib.hid hn
  have hn9 : (m : Int) ≤ 9223372036854775807 := by omega
  clear h hl hm hn
  go_enter Try.func17, Try.ntmps17
  go_wp2_with fail
  go_loopg [0] m (fun k v0 wr => ∃ (st : List Fr) (out : List S27), v0 = .int .i64 k ∧ Hid (k ≤ m) ∧ Hid (In p W t st out wr) ∧ Hid (st = z0.take (z0.length - (m - k))) ∧ Hid (out = y0 ++ List.replicate (m - k) (vt 7 t)))
  case atStart => exact ⟨z0, y0, rfl, Go.Lib.hid (Nat.le_refl _), HI, Go.Lib.hid (by simp), Go.Lib.hid (by simp)⟩
  case round =>
    clear HI
    obtain ⟨st, out, rfl, hk, hI, hS, hO⟩ := hrel
    cases gk with
    | zero =>
      go_wp2_with fail
      refine bodyPost_end (results_none rfl _ _ _) rfl ?_
      have h1 := hI.out
      rw [hS.out, hO.out] at h1
      exact ⟨rfl, In.done HT0.out h1⟩
    | succ j =>
      have hj9 : ((j + 1 : Nat) : Int) ≤ 9223372036854775807 := by have := hk.out; omega
      go_wp2_with fail
      have HBD := Go.Lib.hid (show out.length < 1000000 by have h1 := HL.out; have h2 := HNN.out; have h3 := hk.out; rw [hO.out, List.length_append, List.length_replicate]; omega)
      obtain ⟨pm, hpm⟩ : ∃ pm, pm = p.more W.heap.size (W.alloc (tO t)) := ⟨_, rfl⟩
      have HPM := Go.Lib.hid hpm
      have hm : Rfr pm go gs := by rw [hpm]; exact HM.out.more
      obtain ⟨As, cs, Ao, co, hT17⟩ := hI.out
      rw [← hpm] at hT17
      have HBX := Go.Lib.hid (show ∀ W', Two pm As cs st Ao co out W' → W'.heap[W.heap.size]? = some (tO t) from fun W' h => by
        rw [hpm] at h; exact h.box (blk_new W (tO t)))
      obtain ⟨n, hn⟩ : ∃ n, n = out.length := ⟨_, rfl⟩
      have HN := Go.Lib.hid hn
      have H0 := Go.Lib.hid hT17.drew
      have HL2 := HL
      clear HL
      have HL := HBD
      clear hpm hT17 hn
      refine start_ (n := 6) (S := fun w' => True) (ds := []) #[false, false, false, false, false, false] (by kernel_rfl) rfl rfl trivial (fun hHeld => ?_)
      refine with_tabW clo.tab3 clo.bits3 (fun HT_ HW_ => ?_)
      refine inv_at [0, 1, 2, 3, 4, 5] (fun a0_ b a w' => ∃ (gb : Nat) (A1 : Option Addr) (c1 : Nat) (m3_ : Value) (m4_ : Value), a = putSel a0_ b [(0, 10, .slice Ao n co), (1, 11, .agg #[.int .i64 t.f0, .string t.f1, .int .i64 t.f2, .int .i64 t.f3, .int .i64 t.f4]), (2, 12, .agg #[.int .i64 7, .string ⟨#[]⟩, .int .i64 0, .int .i64 t.f3, .int .i64 t.f4]), (3, 13, m3_), (4, 14, m4_)] ∧ (b 4 = false → Two pm As cs st Ao co out w') ∧ (b 3 = true → b 4 = false → w'.heap[gb]? = some (.cells #[.int .i64 7, .string ⟨#[]⟩, .int .i64 0, .int .i64 t.f3, .int .i64 t.f4] 27)) ∧ (b 4 = true → b 5 = false → PendO pm As cs st Ao co out ((vt 7 t)) (.slice A1 (n + 1) c1) w') ∧ (b 5 = true → TwoE pm st (out ++ [(vt 7 t)]) w') ∧ (b 3 = true → (m3_ : Value) = .slice (some ⟨gb, 0, none⟩) 1 1) ∧ (b 4 = true → (m4_ : Value) = .slice A1 (n + 1) c1)) HT_.out HW_.out (by kernel_rfl) (by kernel_rfl) ?_ ?_ ?_
      · exact ⟨0, none, 0, .bool false, .bool false, by simp only [putSel, Bool.false_eq_true, if_false], fun _ => H0.out, fun h_ => absurd h_ (by decide), fun h_ => absurd h_ (by decide), fun h_ => absurd h_ (by decide), fun h_ => absurd h_ (by decide), fun h_ => absurd h_ (by decide)⟩
      · skip
        refine steps_cons ?_ ?_
        · rintro b a w' ⟨gb, A1, c1, m3_, m4_, ha, Q_TW, Q_GB, Q_PW, Q_TZ, Q_X3_, Q_X4_⟩ hb_ hon hoff
          refine ⟨_, rfl, fun K hK => ?_⟩
          have e2 : a.tmps[2]? = some (.pointer (some ⟨go, 0, none⟩)) := by rw [ha]; exact (putSel_off rfl).trans rfl
          replace ha := Aside0.mk ha
          have TW := Aside0.mk (Q_TW (hoff 4 (by kernel_rfl)))
          have hc0_ : w'.cell? ⟨go, 0, none⟩ = some (.slice Ao n co) := (by have h_ := TW.out.cO; rw [hm.ho, ← HN.out] at h_; exact h_)
          refine value_ (w1 := w') (v := .slice Ao n co) (by rfl) rfl ?_ ?_
          · go_simp
            (try simp only [i64_w])
            try rfl
          refine hK.out _ _ ⟨gb, A1, c1, m3_, m4_, (by rw [ha.out]; exact putSel_upk 0 hb_ rfl rfl rfl), Q_TW, Q_GB, fun h0_ _ => absurd ((hoff 4 (by kernel_rfl)).symm.trans h0_) (by decide), fun h0_ => absurd ((hoff 5 (by kernel_rfl)).symm.trans h0_) (by decide), Q_X3_, fun h0_ => absurd ((hoff 4 (by kernel_rfl)).symm.trans h0_) (by decide)⟩
        refine steps_cons ?_ ?_
        · rintro b a w' ⟨gb, A1, c1, m3_, m4_, ha, Q_TW, Q_GB, Q_PW, Q_TZ, Q_X3_, Q_X4_⟩ hb_ hon hoff
          refine ⟨_, rfl, fun K hK => ?_⟩
          have e5 : a.tmps[5]? = some (.pointer (some ⟨W.heap.size, 0, none⟩)) := by rw [ha]; exact (putSel_off rfl).trans rfl
          replace ha := Aside0.mk ha
          have TW := Aside0.mk (Q_TW (hoff 4 (by kernel_rfl)))
          have hc0_ : w'.cell? ⟨W.heap.size, 0, none⟩ = some (.int .i64 t.f0) := (blk_cell (HBX.out _ TW.out) 0).trans rfl
          have hc1_ : w'.cell? ⟨W.heap.size, 1, none⟩ = some (.string t.f1) := (blk_cell (HBX.out _ TW.out) 1).trans rfl
          have hc2_ : w'.cell? ⟨W.heap.size, 2, none⟩ = some (.int .i64 t.f2) := (blk_cell (HBX.out _ TW.out) 2).trans rfl
          have hc3_ : w'.cell? ⟨W.heap.size, 3, none⟩ = some (.int .i64 t.f3) := (blk_cell (HBX.out _ TW.out) 3).trans rfl
          have hc4_ : w'.cell? ⟨W.heap.size, 4, none⟩ = some (.int .i64 t.f4) := (blk_cell (HBX.out _ TW.out) 4).trans rfl
          refine value_ (w1 := w') (v := .agg #[.int .i64 t.f0, .string t.f1, .int .i64 t.f2, .int .i64 t.f3, .int .i64 t.f4]) (by rfl) rfl ?_ ?_
          · go_simp
            (try simp only [i64_w])
            try rfl
          refine hK.out _ _ ⟨gb, A1, c1, m3_, m4_, (by rw [ha.out]; exact putSel_upk 1 hb_ rfl rfl rfl), Q_TW, fun h0_ _ => absurd ((hoff 3 (by kernel_rfl)).symm.trans h0_) (by decide), fun h0_ _ => absurd ((hoff 4 (by kernel_rfl)).symm.trans h0_) (by decide), fun h0_ => absurd ((hoff 5 (by kernel_rfl)).symm.trans h0_) (by decide), fun h0_ => absurd ((hoff 3 (by kernel_rfl)).symm.trans h0_) (by decide), fun h0_ => absurd ((hoff 4 (by kernel_rfl)).symm.trans h0_) (by decide)⟩
        refine steps_cons ?_ ?_
        · rintro b a w' ⟨gb, A1, c1, m3_, m4_, ha, Q_TW, Q_GB, Q_PW, Q_TZ, Q_X3_, Q_X4_⟩ hb_ hon hoff
          refine ⟨_, rfl, fun K hK => ?_⟩
          have e11 : a.tmps[11]? = some (.agg #[.int .i64 t.f0, .string t.f1, .int .i64 t.f2, .int .i64 t.f3, .int .i64 t.f4]) := by rw [ha]; exact putSel_on (e := (1, 11, .agg #[.int .i64 t.f0, .string t.f1, .int .i64 t.f2, .int .i64 t.f3, .int .i64 t.f4])) 1 rfl rfl (hon 1 (by kernel_rfl)) rfl
          replace ha := Aside0.mk ha
          have TW := Aside0.mk (Q_TW (hoff 4 (by kernel_rfl)))
          refine goesF_ Try.func18 (by kernel_rfl) rfl #[.int .i64 7, .agg #[.int .i64 t.f0, .string t.f1, .int .i64 t.f2, .int .i64 t.f3, .int .i64 t.f4]] (by rfl) rfl rfl (by first | (simp only [List.map_toArray, List.map_cons, List.map_nil, Act.eval, Array.getD_eq_getD_getElem?, Option.getD_some, e11]; done) | (simp only [List.map_toArray, List.map_cons, List.map_nil, Act.eval, Array.getD_eq_getD_getElem?, Option.getD_some, e11]; rfl)) ?_
          refine (virt_calls 7 t _).mono ?_
          rintro e_ w2 ⟨rfl, hbw_⟩
          refine ⟨_, rfl, ?_⟩
          refine hK.out _ _ ⟨gb, A1, c1, m3_, m4_, (by rw [ha.out]; exact putSel_upk 2 hb_ rfl rfl rfl), fun _ => (TW.out.up hbw_), fun h0_ _ => absurd ((hoff 3 (by kernel_rfl)).symm.trans h0_) (by decide), fun h0_ _ => absurd ((hoff 4 (by kernel_rfl)).symm.trans h0_) (by decide), fun h0_ => absurd ((hoff 5 (by kernel_rfl)).symm.trans h0_) (by decide), fun h0_ => absurd ((hoff 3 (by kernel_rfl)).symm.trans h0_) (by decide), fun h0_ => absurd ((hoff 4 (by kernel_rfl)).symm.trans h0_) (by decide)⟩
        refine steps_cons ?_ ?_
        · rintro b a w' ⟨gb, A1, c1, m3_, m4_, ha, Q_TW, Q_GB, Q_PW, Q_TZ, Q_X3_, Q_X4_⟩ hb_ hon hoff
          refine ⟨_, rfl, fun K hK => ?_⟩
          have e12 : a.tmps[12]? = some (.agg #[.int .i64 7, .string ⟨#[]⟩, .int .i64 0, .int .i64 t.f3, .int .i64 t.f4]) := by rw [ha]; exact putSel_on (e := (2, 12, .agg #[.int .i64 7, .string ⟨#[]⟩, .int .i64 0, .int .i64 t.f3, .int .i64 t.f4])) 2 rfl rfl (hon 2 (by kernel_rfl)) rfl
          replace ha := Aside0.mk ha
          have TW := Aside0.mk (Q_TW (hoff 4 (by kernel_rfl)))
          refine value_ (w1 := w'.alloc (.cells #[.int .i64 7, .string ⟨#[]⟩, .int .i64 0, .int .i64 t.f3, .int .i64 t.f4] 27)) (v := .slice (some ⟨w'.heap.size, 0, none⟩) 1 1) (by rfl) rfl ?_ ?_
          · go_simp
          have hn_ : (w'.alloc (.cells #[.int .i64 7, .string ⟨#[]⟩, .int .i64 0, .int .i64 t.f3, .int .i64 t.f4] 27)).heap[w'.heap.size]? = some (.cells #[.int .i64 7, .string ⟨#[]⟩, .int .i64 0, .int .i64 t.f3, .int .i64 t.f4] 27) := blk_new _ _
          have hbw_ : Below w'.heap.size w' (w'.alloc (.cells #[.int .i64 7, .string ⟨#[]⟩, .int .i64 0, .int .i64 t.f3, .int .i64 t.f4] 27)) := below_alloc (Below.refl _ _) _
          obtain ⟨w2, hw2⟩ : ∃ w2, w2 = w'.alloc (.cells #[.int .i64 7, .string ⟨#[]⟩, .int .i64 0, .int .i64 t.f3, .int .i64 t.f4] 27) := ⟨_, rfl⟩
          rw [← hw2]
          rw [← hw2] at hn_ hbw_
          refine hK.out _ _ ⟨w'.heap.size, A1, c1, (.slice (some ⟨w'.heap.size, 0, none⟩) 1 1), m4_, (by rw [ha.out]; exact putSel_upk 3 hb_ rfl rfl rfl), fun _ => (TW.out.up hbw_), fun _ _ => hn_, fun h0_ _ => absurd ((hoff 4 (by kernel_rfl)).symm.trans h0_) (by decide), fun h0_ => absurd ((hoff 5 (by kernel_rfl)).symm.trans h0_) (by decide), fun _ => rfl, fun h0_ => absurd ((hoff 4 (by kernel_rfl)).symm.trans h0_) (by decide)⟩
        refine steps_cons ?_ ?_
        · rintro b a w' ⟨gb, A1, c1, m3_, m4_, ha, Q_TW, Q_GB, Q_PW, Q_TZ, Q_X3_, Q_X4_⟩ hb_ hon hoff
          refine ⟨_, rfl, fun K hK => ?_⟩
          have e10 : a.tmps[10]? = some (.slice Ao n co) := by rw [ha]; exact putSel_on (e := (0, 10, .slice Ao n co)) 0 rfl rfl (hon 0 (by kernel_rfl)) rfl
          have e13 : a.tmps[13]? = some (m3_) := by rw [ha]; exact putSel_on (e := (3, 13, m3_)) 3 rfl rfl (hon 3 (by kernel_rfl)) rfl
          rw [Q_X3_ (hon 3 (by kernel_rfl))] at e13
          replace ha := Aside0.mk ha
          have TW := Aside0.mk (Q_TW hb_)
          have GB := Aside0.mk (Q_GB (hon 3 (by kernel_rfl)) hb_)
          refine app_ (by rfl) rfl (.tmp 10) (.tmp 13) 22 rfl pm.w0.heap.size 27 (.agg #[.int .i64 0, .string ⟨#[]⟩, .int .i64 0, .int .i64 0, .int .i64 0]) 5 48 Try.underlying22 info27 rfl (by decide) (.slice Ao n co) n (out.flatMap cT) (eval_of e10) (by have h_ := TW.out.rO; rw [← HN.out] at h_; exact h_) ⟨gb, 0, none⟩ 1 1 (cT ((vt 7 t))) (eval_of e13) rfl (World.news_of_block GB.out) (cT_one _) (by have h_ := HL.out; rw [← HN.out] at h_; simp only [maxLen]; omega) (by have h_ := HL.out; rw [← HN.out] at h_; omega) TW.out.below.size ?_
          intro v2_ w2 ho_ hg_ hat_
          obtain ⟨A1_, c1_, rfl⟩ := own_slice ho_
          refine hK.out _ _ ⟨gb, A1_, c1_, m3_, (.slice A1_ (n + 1) c1_), (by rw [ha.out]; exact putSel_upk 4 hb_ rfl rfl rfl), fun h0_ => absurd ((up_self b 4).symm.trans h0_) (by decide), fun _ h1_ => absurd ((up_self b 4).symm.trans h1_) (by decide), fun _ _ => ⟨w', TW.out, by rw [← HN.out]; exact ho_, by rw [← HN.out]; exact hg_, by rw [← HN.out]; exact hat_⟩, fun h0_ => absurd ((hoff 5 (by kernel_rfl)).symm.trans h0_) (by decide), Q_X3_, fun _ => rfl⟩
        refine steps_cons ?_ ?_
        · rintro b a w' ⟨gb, A1, c1, m3_, m4_, ha, Q_TW, Q_GB, Q_PW, Q_TZ, Q_X3_, Q_X4_⟩ hb_ hon hoff
          refine ⟨_, rfl, fun K hK => ?_⟩
          have e2 : a.tmps[2]? = some (.pointer (some ⟨go, 0, none⟩)) := by rw [ha]; exact (putSel_off rfl).trans rfl
          have e14 : a.tmps[14]? = some (m4_) := by rw [ha]; exact putSel_on (e := (4, 14, m4_)) 4 rfl rfl (hon 4 (by kernel_rfl)) rfl
          rw [Q_X4_ (hon 4 (by kernel_rfl))] at e14
          replace ha := Aside0.mk ha
          have PW := Aside0.mk (Q_PW (hon 4 (by kernel_rfl)) hb_)
          have hf_ : w'.frozen? ⟨go, 0, none⟩ = false := by have h_ := PW.out.home.free; rw [hm.ho] at h_; exact h_
          have hc_ : w'.cell? ⟨go, 0, none⟩ = some (.slice Ao out.length co) := by have h_ := PW.out.home.cell; rw [hm.ho] at h_; exact h_
          refine skip_ (w1 := w'.setCell ⟨go, 0, none⟩ (.slice A1 (n + 1) c1)) (by rfl) rfl ?_ ?_
          · go_simp
          refine hK.out _ _ ⟨gb, A1, c1, m3_, m4_, (by rw [ha.out]; exact putSel_none (v := undef) rfl), fun h0_ => absurd ((hon 4 (by kernel_rfl)).symm.trans h0_) (by decide), fun _ h1_ => absurd ((hon 4 (by kernel_rfl)).symm.trans h1_) (by decide), fun _ h1_ => absurd ((up_self b 5).symm.trans h1_) (by decide), fun _ => (by have h_ := PW.out.store; rw [hm.ho] at h_; exact h_), Q_X3_, Q_X4_⟩
        exact steps_nil
      rintro b a w8 hall ⟨gb, A1, c1, m3_, m4_, ha, Q_TW, Q_GB, Q_PW, Q_TZ, Q_X3_, Q_X4_⟩
      have hb0_ := hall 0 (by kernel_rfl)
      have hb1_ := hall 1 (by kernel_rfl)
      have hb2_ := hall 2 (by kernel_rfl)
      have hb3_ := hall 3 (by kernel_rfl)
      have hb4_ := hall 4 (by kernel_rfl)
      have hb5_ := hall 5 (by kernel_rfl)
      subst ha
      obtain rfl := Q_X3_ hb3_
      obtain rfl := Q_X4_ hb4_
      simp only [putSel, hb0_, hb1_, hb2_, hb3_, hb4_, hb5_, if_true, Act.put, List.setIfInBounds_toArray, List.set_cons_zero, List.set_cons_succ]
      clear Q_TW
      clear Q_GB
      clear Q_PW
      have TZ := Aside0.mk (Q_TZ hb5_)
      clear Q_TZ
      clear hall hb0_ hb1_ hb2_ hb3_ hb4_ hb5_
      have hI3 := Go.Lib.hid (show In p W t st (out ++ [vt 7 t]) w8 from by have h := TZ.out; rw [HPM.out] at h; exact h)
      clear TZ HT_ HW_ hHeld H0 HBX HN HPM hm HBD HL hI Q_X3_ Q_X4_
      obtain ⟨l, y, hly⟩ : ∃ l y, st = l ++ [y] := by
        have h1 := hk.out
        have h2 := HNN.out
        have h3 : st.length = z0.length - (m - (j + 1)) := by rw [hS.out, List.length_take]; omega
        have h4 : st ≠ [] := fun h => by rw [h] at h3; simp at h3; omega
        exact ⟨st.dropLast, st.getLast h4, (List.dropLast_concat_getLast h4).symm⟩
      have hl2 : l = z0.take (z0.length - (m - j)) := by
        have h1 := hk.out
        have h2 := HNN.out
        have h3 : st.length = z0.length - (m - (j + 1)) := by rw [hS.out, List.length_take]; omega
        have h4 : st.length = l.length + 1 := by rw [hly]; simp
        have h5 : l = st.take l.length := by rw [hly]; simp
        rw [h5, hS.out, List.take_take]
        congr 1
        rw [h4] at h3
        omega
      have HLY := Go.Lib.hid hl2
      have hlen := Go.Lib.hid (show (l ++ [y]).length < 1000000 by rw [← hly, hS.out, List.length_take]; have := HL2.out; omega)
      rw [hly] at hI3
      clear hly hl2 hS
      obtain ⟨As2, cs2, Ao2, co2, hT4⟩ := hI3.out
      obtain ⟨pm, hpm⟩ : ∃ pm, pm = p.more W.heap.size (W.alloc (tO t)) := ⟨_, rfl⟩
      have HPM := Go.Lib.hid hpm
      have hm : Rfr pm go gs := by rw [hpm]; exact HM.out.more
      rw [← hpm] at hT4
      obtain ⟨gq, rfl, _, _⟩ := hT4.atS (snoc_at l y)
      obtain ⟨mm, hm0⟩ : ∃ mm, mm = (l ++ [y]).length := ⟨_, rfl⟩
      obtain ⟨jj, hj0⟩ : ∃ jj, jj = l.length := ⟨_, rfl⟩
      have hmj : (mm : Int) - 1 = (jj : Int) := by rw [hm0, hj0]; simp
      have hj1 : (jj : Int) < (mm : Int) := by omega
      have hw : IntKind.i64.wrap ((mm : Int) - 1) = (jj : Int) := by have h := hlen.out; rw [← hm0] at h; rw [IntKind.wrap_i64]; omega
      have hp0 : (0 : Int) ≤ (jj : Int) := by omega
      have hcap : mm ≤ cs2 := by rw [hm0]; exact own_cap hT4.rS
      have hcap2 : (jj : Int) ≤ (cs2 : Int) := by omega
      have hc8 : w8.cell? ⟨gs, 0, none⟩ = some (.slice (some ⟨gq, 0, none⟩) mm cs2) := by have h_ := hT4.cS; rw [hm.hs, ← hm0] at h_; exact h_
      have hf8 : w8.frozen? ⟨gs, 0, none⟩ = false := by have h_ := hT4.fS; rw [hm.hs] at h_; exact h_
      have hI4 := Go.Lib.hid (show In p W t l (out ++ [vt 7 t]) (w8.setCell ⟨gs, 0, none⟩ (.slice (some ⟨gq, 0, none⟩) jj cs2)) from by
        have h_ := hT4.pop
        rw [hm.hs, ← hj0] at h_
        rw [hpm] at h_
        exact ⟨_, _, _, _, h_⟩)
      have hcut := cut_to (P := Try.prog) 44 48 .i64 Try.underlying44 info48'.choose_spec (some ⟨gq, 0, none⟩) mm cs2 (jj : Int) hp0 (by omega) hcap
      rw [Int.toNat_natCast] at hcut
      clear hT4 hm0 hj0 hmj hcap hpm hlen HPM hm hI3
      have HJ9 := Go.Lib.hid hj9
      have HN9 := Go.Lib.hid hn9
      clear hj9 hn9
      go_wp2_with fail
      have hl9 : (m : Int) < 9223372036854775808 := by have := HN9.out; omega
      have hwj : wrap64 (j : Int) = (j : Int) := by have := hk.out; unfold wrap64; omega
      clear hl9
      go_roundg j
      case measure => exact Nat.lt_succ_self j
      case rel =>
        refine ⟨l, out ++ [vt 7 t], by rw [hwj], Go.Lib.hid (by have := hk.out; omega), hI4, HLY, Go.Lib.hid ?_⟩
        rw [hO.out, List.append_assoc, show m - j = (m - (j + 1)) + 1 by have := hk.out; omega, List.replicate_succ']
end Go.Proofs.Ytchbjjefjmcakaa.Lb
