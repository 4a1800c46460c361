/- Two rows of one's own (frames, tokens) that lie in two cells: what each step leaves. -/
import Derived.Test.YtchbjjefjmcakaaPLayoutBlocksx0
import Derived.Test.YtchbjjefjmcakaaPLayoutBlocksx1
import Derived.Test.YtchbjjefjmcakaaWInvWords
import Derived.Lib.Hide
import Derived.Outline
namespace Go.Proofs.Ytchbjjefjmcakaa.Lb
open Go.RowKit Go.Proofs.Ytchbjjefjmcakaa.PLayoutBlocks Go.Proofs.YtchbjjefjmcakaaW.PrintWords Go.Proofs.YtchbjjefjmcakaaW.PrintLast Go.Proofs.YtchbjjefjmcakaaW.PrintMore
set_option linter.unusedVariables false
/-- A row grew: its own block, or a new one. -/
def Came (v v' : Value) (W : World) : Prop := v'.ownBlock = v.ownBlock ∨ ∃ b, v'.ownBlock = some b ∧ W.heap.size ≤ b
section
variable {P : Program} {ops : Array Oper} {Q : Exit → Act → World → Prop} {w : World}
/-- A call of a function value out of a slot. -/
theorem goesV_ {oi : Oper} {N : Option Tmp} {a : Act} {K : Act → World → Prop} {f : FuncId} {fn : Func} {t : Tmp} {ars : Array Operand} {ts : Array TypeId} (hf : P.funcs[f]? = some fn) (hname : (fn.name == "runtime.NumGoroutine") = false) (hb : fn.body.isSome = true) (args : Array Value)
    (hw : Region.wanted oi (yielded ops a.tmps) = true) (hN : oi.dst = N) (hop : oi.op = .call { callee := .value (.tmp t), args := ars, argTypes := ts }) (hev : a.tmps[t]? = some (.func (.func f) #[] #[])) (hargs : ars.map a.eval = args)
    (h : Calls P f args w fun e w' => ∃ v, e = .returned v ∧ K (a.put N v) w') : if Region.wanted oi (yielded ops a.tmps) = true then Oper.wp P oi a w K Q else K (a.put N undef) w := by
  refine call_ f args hw hN ?_ h
  have he := enters_ hf hname hb args w
  have hv : a.eval (.tmp t) = .func (.func f) #[] #[] := eval_of hev
  unfold execOp
  simp [hop, resolve, Deferred.ofValue, invoke, hv, hargs, he]
/-- An append of some elements to a row of one's own. -/
theorem app_ {oi : Oper} {N : Option Tmp} {a : Act} {K : Act → World → Prop} (hw : Region.wanted oi (yielded ops a.tmps) = true) (hN : oi.dst = N) (s x : Operand) (t : TypeId)
    (ho : oi.op = .call { callee := .builtin .append, args := #[s, x], argTypes := #[t, t] })
    (base : Nat) (e : TypeId) (z : Value) (size bytes : Nat) (ht : P.underlying t = some (.slice e)) (hinfo : (P.info? e).map (fun i => (i.zero, i.size, i.bytes)) = some (some z, size, bytes)) (hzs : z.cells.size = size) (hsz : 0 < size)
    (v : Value) (n : Nat) (xs : List Value) (hs : a.eval s = v) (hown : w.ownsRow base e size v n xs)
    (ad : Addr) (m c : Nat) (news : List Value) (hx : a.eval x = .slice (some ad) m c) (hl : news.length = m * size) (hnews : ∀ j u, news[j]? = some u → w.cell? (ad.add j) = some u) (h1 : ∀ u ∈ news, u.oneCell' = true)
    (h63 : n + m ≤ maxLen) (hbytes : (n + m) * bytes ≤ 140737488355328) (hbase : base ≤ w.heap.size)
    (h : ∀ v' w', w'.ownsRow base e size v' (n + m) (xs ++ news) → w.grownBy w' v.ownBlock → Came v v' w → K (a.put N v') w') :
    if Region.wanted oi (yielded ops a.tmps) = true then Oper.wp P oi a w K Q else K (a.put N undef) w := by
  obtain ⟨i0, hi, hzz⟩ := Option.map_eq_some_iff.1 hinfo
  simp only [Prod.mk.injEq] at hzz
  obtain ⟨hz0, hz1, hz2⟩ := hzz
  obtain ⟨v', w', hr, h2, h3, h4, h5⟩ := run_append_own_at (P := P) w base t oi.type e i0 z size bytes ht hi hz0 hz1 hz2 hzs hsz v n xs hown ad m c news hl hnews h1 h63 hbytes hbase
  rw [if_pos hw]
  subst hN
  unfold Oper.wp execOp
  simp only [ho, resolve, invoke, builtin, Sem.run_bind, Sem.run_pure, Result.andThen_ok, List.map_toArray, List.map_cons, List.map_nil, hs, hx, hr]
  exact h v' w' h2 h3 (h5.imp id fun h => ⟨_, h, Nat.le_refl _⟩)
end
/-- A frame: its column and its word. -/
abbrev Fr : Type := Int × ByteArray
def cF (x : Fr) : List Value := [.int .i64 x.1, .string x.2]
def cT (t : S27) : List Value := [.int .i64 t.f0, .string t.f1, .int .i64 t.f2, .int .i64 t.f3, .int .i64 t.f4]
section
variable {α : Type} {c : α → List Value} {k : Nat}
theorem flat_len (hk : ∀ x, (c x).length = k) : ∀ l : List α, (l.flatMap c).length = l.length * k
  | [] => by simp
  | e :: l => by rw [List.flatMap_cons, List.length_append, flat_len hk l, List.length_cons, hk, Nat.succ_mul, Nat.add_comm]
theorem flat_at (hk : ∀ x, (c x).length = k) : ∀ (l : List α) (j : Nat) (p : α) (i : Nat), l[j]? = some p → i < k → (l.flatMap c)[j * k + i]? = (c p)[i]?
  | [], _, _, _, h, _ => by cases h
  | e :: l, 0, p, i, h, hi => by
    obtain rfl : e = p := by simpa using h
    rw [List.flatMap_cons, List.getElem?_append_left (by rw [hk]; omega)]
    simp
  | e :: l, j + 1, p, i, h, hi => by
    rw [List.flatMap_cons, List.getElem?_append_right (by rw [hk, Nat.succ_mul]; omega)]
    have : (j + 1) * k + i - (c e).length = j * k + i := by rw [hk, Nat.succ_mul]; omega
    rw [this]
    exact flat_at hk l j p i (by simpa using h) hi
end
theorem cF_len (x : Fr) : (cF x).length = 2 := rfl
theorem cT_len (x : S27) : (cT x).length = 5 := rfl
theorem cF_one (x : Fr) : ∀ u ∈ cF x, u.oneCell' = true := by
  intro u hu
  simp only [cF, List.mem_cons, List.not_mem_nil, or_false] at hu
  rcases hu with rfl | rfl <;> rfl
theorem cT_one (x : S27) : ∀ u ∈ cT x, u.oneCell' = true := by
  intro u hu
  simp only [cT, List.mem_cons, List.not_mem_nil, or_false] at hu
  rcases hu with rfl | rfl | rfl | rfl | rfl <;> rfl
/-- A value lies in a cell of a block of type t. -/
def Home (W : World) (a : Addr) (t : TypeId) (v : Value) : Prop := ∃ cur, W.heap[a.block]? = some (.cells cur t (0, 0)) ∧ cur[a.off]? = some v ∧ a = ⟨a.block, a.off, none⟩
section
variable {W W' : World} {a b : Addr} {t : TypeId} {v x : Value}
theorem blk_up {g : Nat} {o : Obj} (h : W.heap[g]? = some o) (hb : Below W.heap.size W W') : W'.heap[g]? = some o := by rw [hb.block g (blk_lt h)]; exact h
theorem Home.cell (h : Home W a t v) : W.cell? a = some v := by
  obtain ⟨cur, h1, h2, h3⟩ := h
  rw [h3, blk_cell h1]; exact h2
theorem Home.free (h : Home W a t v) : W.frozen? a = false := by
  obtain ⟨cur, h1, h2, h3⟩ := h
  rw [h3, blk_frozen h1]
theorem Home.up (h : Home W a t v) (hb : Below W.heap.size W W') : Home W' a t v := by
  obtain ⟨cur, h1, h2, h3⟩ := h
  exact ⟨cur, blk_up h1 hb, h2, h3⟩
theorem Home.grown {row : Option Nat} (h : Home W a t v) (hg : W.grownBy W' row) (hne : some a.block ≠ row) : Home W' a t v := by
  obtain ⟨cur, h1, h2, h3⟩ := h
  exact ⟨cur, blk_grown h1 hg hne, h2, h3⟩
theorem Home.put (h : Home W a t v) (x : Value) : Home (W.setCell a x) a t x := by
  obtain ⟨cur, h1, h2, h3⟩ := h
  have hl := (Array.getElem?_eq_some_iff.1 h2).1
  refine ⟨cur.setIfInBounds a.off x, ?_, by simp [hl], h3⟩
  have h := blk_set h1 a.off x
  have e : (⟨a.block, a.off, none⟩ : Addr) = a := h3.symm
  rw [e] at h
  exact h
theorem Home.far (h : Home W a t v) (hne : a ≠ b) (hb : b = ⟨b.block, b.off, none⟩) (x : Value) : Home (W.setCell b x) a t v := by
  obtain ⟨cur, h1, h2, h3⟩ := h
  by_cases e : a.block = b.block
  · have ho : a.off ≠ b.off := fun h => hne (by rw [h3, hb, e, h])
    refine ⟨cur.setIfInBounds b.off x, ?_, ?_, h3⟩
    · have h := blk_set h1 b.off x
      rw [e] at h ⊢
      have e2 : (⟨b.block, b.off, none⟩ : Addr) = b := hb.symm
      rw [e2] at h
      exact h
    · rw [Array.getElem?_setIfInBounds_ne (Ne.symm ho)]; exact h2
  · exact ⟨cur, (Below.heap_setCell W b x a.block e).trans h1, h2, h3⟩
theorem Home.row_ne {base e size n : Nat} {r : Value} {xs : List Value} (h : Home W a t v) (ho : W.ownsRow base e size r n xs) (hne : e ≠ t) : some a.block ≠ r.ownBlock := by
  obtain ⟨cur, h1, h2, h3⟩ := h
  exact own_ne ho h1 hne
theorem own_far {base e size n : Nat} {r : Value} {xs : List Value} (ho : W.ownsRow base e size r n xs) (h : Home W a t v) (hne : e ≠ t) (x : Value) : (W.setCell a x).ownsRow base e size r n xs := by
  refine own_other ho (row := some a.block) ⟨rfl, rfl, rfl, by simp, fun k hk h => Below.heap_setCell W a x k (fun e => h (by rw [e]))⟩ ?_
  have := h.row_ne ho hne
  cases hr : r.ownBlock with
  | none => exact .inl rfl
  | some k => exact .inr (by rw [hr] at this; exact this.symm)
end
/-- What stays the same in all steps: the world at the beginning, the two cells and their types, the frames' type, the blocks that must be kept. -/
structure Pm where
  w0 : World
  hs : Addr
  ho : Addr
  ts : TypeId
  tq : TypeId
  es : TypeId
  Kp : Nat → Prop
  W0 : World
structure Pm.ok (p : Pm) : Prop where
  ne : p.hs ≠ p.ho
  n1 : p.es ≠ p.ts
  n2 : p.es ≠ p.tq
  n3 : (27 : TypeId) ≠ p.ts
  n4 : (27 : TypeId) ≠ p.tq
  n5 : p.es ≠ (27 : TypeId)
  geS : p.w0.heap.size ≤ p.hs.block
  geO : p.w0.heap.size ≤ p.ho.block
structure Two (p : Pm) (As : Option Addr) (cs : Nat) (st : List Fr) (Ao : Option Addr) (co : Nat) (out : List S27) (W : World) : Prop where
  ok : p.ok
  hS : Home W p.hs p.ts (.slice As st.length cs)
  hO : Home W p.ho p.tq (.slice Ao out.length co)
  rS : W.ownsRow p.w0.heap.size p.es 2 (.slice As st.length cs) st.length (st.flatMap cF)
  rO : W.ownsRow p.w0.heap.size 27 5 (.slice Ao out.length co) out.length (out.flatMap cT)
  below : Below p.w0.heap.size p.w0 W
  size : p.W0.heap.size ≤ W.heap.size
  far : ∀ b, p.Kp b → b < p.W0.heap.size ∧ b ≠ p.hs.block ∧ b ≠ p.ho.block ∧ (Value.slice As st.length cs).ownBlock ≠ some b ∧ (Value.slice Ao out.length co).ownBlock ≠ some b
  keep : ∀ b, p.Kp b → W.heap[b]? = p.W0.heap[b]?
def TwoE (p : Pm) (st : List Fr) (out : List S27) (W : World) : Prop := ∃ As cs Ao co, Two p As cs st Ao co out W
section
variable {p : Pm} {As Ao : Option Addr} {cs co : Nat} {st : List Fr} {out : List S27} {W W' : World}
theorem Two.up (h : Two p As cs st Ao co out W) (hb : Below W.heap.size W W') : Two p As cs st Ao co out W' :=
  ⟨h.ok, h.hS.up hb, h.hO.up hb, pw_own_below h.rS hb, pw_own_below h.rO hb, h.below.trans (hb.mono h.below.size), Nat.le_trans h.size hb.size, h.far, fun b hk => (hb.block b (Nat.lt_of_lt_of_le (h.far b hk).1 h.size)).trans (h.keep b hk)⟩
theorem Two.drew (h : Two p As cs st Ao co out W) : Two p As cs st Ao co out W.drew := h.up (below_drew1 (Below.refl _ _))
theorem Two.putO {A1 : Option Addr} {c1 : Nat} {y : S27} (h : Two p As cs st Ao co out W) (ho : W'.ownsRow p.w0.heap.size 27 5 (.slice A1 (out.length + 1) c1) (out.length + 1) (out.flatMap cT ++ cT y)) (hg : W.grownBy W' (Value.slice Ao out.length co).ownBlock) (hat : Came (.slice Ao out.length co) (.slice A1 (out.length + 1) c1) W) :
    Two p As cs st A1 c1 (out ++ [y]) (W'.setCell p.ho (.slice A1 (out.length + 1) c1)) := by
  have hl : (out ++ [y]).length = out.length + 1 := by simp
  have hf : (out ++ [y]).flatMap cT = out.flatMap cT ++ cT y := by simp
  have hO' := h.hO.grown hg (h.hO.row_ne h.rO h.ok.n4)
  have hS' := h.hS.grown hg (h.hS.row_ne h.rO h.ok.n3)
  have rS' := own_other h.rS hg (own_type_ne h.rS h.rO h.ok.n5)
  have hidx : p.ho = ⟨p.ho.block, p.ho.off, none⟩ := by obtain ⟨_, _, _, h3⟩ := h.hO; exact h3
  refine ⟨h.ok, hS'.far h.ok.ne hidx _, ?_, own_far rS' hO' h.ok.n2 _, ?_, ?_, ?_, ?_, ?_⟩
  · rw [hl]; exact hO'.put _
  · rw [hl, hf]; exact own_far ho hO' h.ok.n4 _
  · exact (h.below.grown hg h.below.size (own_base h.rO)).setCell h.ok.geO _
  · exact Nat.le_trans h.size (Nat.le_trans hg.size (by simp))
  · intro b hk
    obtain ⟨f1, f2, f3, f4, f5⟩ := h.far b hk
    refine ⟨f1, f2, f3, f4, ?_⟩
    rw [hl]
    rcases hat with hat | ⟨c, hat, hc⟩
    · rw [hat]; exact f5
    · rw [hat]; intro e; have := h.size; injection e with e; omega
  · intro b hk
    obtain ⟨f1, f2, f3, f4, f5⟩ := h.far b hk
    rw [Below.heap_setCell _ _ _ _ f3, hg.block b (Nat.lt_of_lt_of_le f1 h.size) (fun e => f5 e.symm)]
    exact h.keep b hk
theorem Two.putS {A1 : Option Addr} {c1 : Nat} {y : Fr} (h : Two p As cs st Ao co out W) (ho : W'.ownsRow p.w0.heap.size p.es 2 (.slice A1 (st.length + 1) c1) (st.length + 1) (st.flatMap cF ++ cF y)) (hg : W.grownBy W' (Value.slice As st.length cs).ownBlock) (hat : Came (.slice As st.length cs) (.slice A1 (st.length + 1) c1) W) :
    Two p A1 c1 (st ++ [y]) Ao co out (W'.setCell p.hs (.slice A1 (st.length + 1) c1)) := by
  have hl : (st ++ [y]).length = st.length + 1 := by simp
  have hf : (st ++ [y]).flatMap cF = st.flatMap cF ++ cF y := by simp
  have hO' := h.hO.grown hg (h.hO.row_ne h.rS h.ok.n2)
  have hS' := h.hS.grown hg (h.hS.row_ne h.rS h.ok.n1)
  have rO' := own_other h.rO hg (own_type_ne h.rO h.rS (Ne.symm h.ok.n5))
  have hidx : p.hs = ⟨p.hs.block, p.hs.off, none⟩ := by obtain ⟨_, _, _, h3⟩ := h.hS; exact h3
  refine ⟨h.ok, ?_, hO'.far (Ne.symm h.ok.ne) hidx _, ?_, own_far rO' hS' h.ok.n3 _, ?_, ?_, ?_, ?_⟩
  · rw [hl]; exact hS'.put _
  · rw [hl, hf]; exact own_far ho hS' h.ok.n1 _
  · exact (h.below.grown hg h.below.size (own_base h.rS)).setCell h.ok.geS _
  · exact Nat.le_trans h.size (Nat.le_trans hg.size (by simp))
  · intro b hk
    obtain ⟨f1, f2, f3, f4, f5⟩ := h.far b hk
    refine ⟨f1, f2, f3, ?_, f5⟩
    rw [hl]
    rcases hat with hat | ⟨c, hat, hc⟩
    · rw [hat]; exact f4
    · rw [hat]; intro e; have := h.size; injection e with e; omega
  · intro b hk
    obtain ⟨f1, f2, f3, f4, f5⟩ := h.far b hk
    rw [Below.heap_setCell _ _ _ _ f2, hg.block b (Nat.lt_of_lt_of_le f1 h.size) (fun e => f4 e.symm)]
    exact h.keep b hk
/-- A row cut at its end. -/
theorem own_cut {base e size n c : Nat} {A : Option Addr} {xs : List Value} {m : Nat} (h : W.ownsRow base e size (.slice A n c) n xs) (hm : m ≤ n) (hn : 0 < n) : W.ownsRow base e size (.slice A m c) m (xs.take (m * size)) := by
  rcases h.2 with ⟨_, h0⟩ | ⟨g, cap, cur, e0, hb, hg, hnc, hcm, hcs, ht⟩
  · omega
  · injection e0 with e1 _ e3
    subst e1 e3
    have hms : m * size ≤ n * size := Nat.mul_le_mul_right _ hm
    refine ⟨?_, .inr ⟨g, c, cur, rfl, hb, hg, by omega, hcm, hcs, ?_⟩⟩
    · rw [List.length_take, h.1]; omega
    · rw [← ht, List.take_take]; congr 1; omega
theorem Two.pop {y : Fr} (h : Two p As cs (st ++ [y]) Ao co out W) : Two p As cs st Ao co out (W.setCell p.hs (.slice As st.length cs)) := by
  have hl : (st ++ [y]).length = st.length + 1 := by simp
  have hidx : p.hs = ⟨p.hs.block, p.hs.off, none⟩ := by obtain ⟨_, _, _, h3⟩ := h.hS; exact h3
  have hr := own_cut (m := st.length) h.rS (by omega) (by omega)
  have e : ((st ++ [y]).flatMap cF).take (st.length * 2) = st.flatMap cF := by
    rw [List.flatMap_append, ← flat_len cF_len st, List.take_left]
  rw [e] at hr
  refine ⟨h.ok, h.hS.put _, h.hO.far (Ne.symm h.ok.ne) hidx _, own_far hr h.hS h.ok.n1 _, own_far h.rO h.hS h.ok.n3 _, h.below.setCell h.ok.geS _, Nat.le_trans h.size (by simp), ?_, ?_⟩
  · intro b hk
    obtain ⟨f1, f2, f3, f4, f5⟩ := h.far b hk
    exact ⟨f1, f2, f3, by cases As <;> exact f4, f5⟩
  · intro b hk
    obtain ⟨f1, f2, f3, f4, f5⟩ := h.far b hk
    rw [Below.heap_setCell _ _ _ _ f2]
    exact h.keep b hk
/-- A new block is kept, too. -/
def Pm.more (p : Pm) (t : Nat) (W0 : World) : Pm := { p with Kp := fun b => p.Kp b ∨ b = t, W0 := W0 }
theorem Two.more (h : Two p As cs st Ao co out W) (o : Obj) : Two (p.more W.heap.size (W.alloc o)) As cs st Ao co out (W.alloc o) := by
  have hb := below_alloc (Below.refl W.heap.size W) o
  have h2 := h.up hb
  have b1 : ∀ a t v, Home W a t v → a.block < W.heap.size := fun a t v ⟨_, h, _, _⟩ => blk_lt h
  refine ⟨⟨h.ok.ne, h.ok.n1, h.ok.n2, h.ok.n3, h.ok.n4, h.ok.n5, h.ok.geS, h.ok.geO⟩, h2.hS, h2.hO, h2.rS, h2.rO, h2.below, Nat.le_refl _, ?_, fun b _ => rfl⟩
  rintro b (hk | rfl)
  · obtain ⟨f1, f2⟩ := h.far b hk
    exact ⟨by have := h.size; show b < (W.alloc o).heap.size; simp; omega, f2⟩
  · refine ⟨by show W.heap.size < (W.alloc o).heap.size; simp, ?_, ?_, ?_, ?_⟩
    · have := b1 _ _ _ h.hS; show W.heap.size ≠ p.hs.block; omega
    · have := b1 _ _ _ h.hO; show W.heap.size ≠ p.ho.block; omega
    · intro e; have := own_lt h.rS _ e; omega
    · intro e; have := own_lt h.rO _ e; omega
theorem Two.back {t : Nat} {W0 : World} (h0 : ∀ b, p.Kp b → b < p.W0.heap.size ∧ W0.heap[b]? = p.W0.heap[b]?) (hs : p.W0.heap.size ≤ W0.heap.size) (h : Two (p.more t W0) As cs st Ao co out W) : Two p As cs st Ao co out W :=
  ⟨⟨h.ok.ne, h.ok.n1, h.ok.n2, h.ok.n3, h.ok.n4, h.ok.n5, h.ok.geS, h.ok.geO⟩, h.hS, h.hO, h.rS, h.rO, h.below, Nat.le_trans hs h.size, fun b hk => ⟨(h0 b hk).1, (h.far b (.inl hk)).2⟩, fun b hk => (h.keep b (.inl hk)).trans (h0 b hk).2⟩
/-- Behind a call's own box: what was kept is kept. -/
theorem Two.back' {W1 : World} {As1 Ao1 : Option Addr} {cs1 co1 : Nat} {st1 : List Fr} {out1 : List S27} {o : Obj} (h1 : Two p As1 cs1 st1 Ao1 co1 out1 W1) (h : Two (p.more W1.heap.size (W1.alloc o)) As cs st Ao co out W) : Two p As cs st Ao co out W :=
  h.back (fun b hk => ⟨(h1.far b hk).1, by
    have hl := Nat.lt_of_lt_of_le (h1.far b hk).1 h1.size
    rw [Below.heap_alloc W1 o b hl]; exact h1.keep b hk⟩) (Nat.le_trans h1.size (by simp))
/-- The kept box. -/
theorem Two.box {t : Nat} {W0 : World} {o : Obj} (h : Two (p.more t W0) As cs st Ao co out W) (h0 : W0.heap[t]? = some o) : W.heap[t]? = some o := (h.keep t (.inr rfl)).trans h0
/-- An element of the frames. -/
theorem Two.atS (h : Two p As cs st Ao co out W) {j : Nat} {y : Fr} (hj : st[j]? = some y) : ∃ g, As = some ⟨g, 0, none⟩ ∧ W.cell? ⟨g, j * 2, none⟩ = some (.int .i64 y.1) ∧ W.cell? ⟨g, j * 2 + 1, none⟩ = some (.string y.2) := by
  have hl := (List.getElem?_eq_some_iff.1 hj).1
  rcases h.rS.2 with ⟨_, h0⟩ | ⟨g, cap, cur, e0, _⟩
  · omega
  · injection e0 with e1 _ e3
    subst e1 e3
    have hc := h.rS.cells (g := g) rfl
    refine ⟨g, rfl, ?_, ?_⟩
    · have := hc (j * 2 + 0) (.int .i64 y.1) (by rw [flat_at cF_len st j y 0 hj (by omega)]; rfl)
      rw [add_plain] at this
      exact this
    · have := hc (j * 2 + 1) (.string y.2) (by rw [flat_at cF_len st j y 1 hj (by omega)]; rfl)
      rw [add_plain] at this
      exact this
theorem Two.cS (h : Two p As cs st Ao co out W) : W.cell? p.hs = some (.slice As st.length cs) := h.hS.cell
theorem Two.cO (h : Two p As cs st Ao co out W) : W.cell? p.ho = some (.slice Ao out.length co) := h.hO.cell
theorem Two.fS (h : Two p As cs st Ao co out W) : W.frozen? p.hs = false := h.hS.free
theorem Two.fO (h : Two p As cs st Ao co out W) : W.frozen? p.ho = false := h.hO.free
/-- The tokens' row has grown; the cell is not yet written. -/
def PendO (p : Pm) (As : Option Addr) (cs : Nat) (st : List Fr) (Ao : Option Addr) (co : Nat) (out : List S27) (y : S27) (v1 : Value) (W' : World) : Prop :=
  ∃ W, Two p As cs st Ao co out W ∧ W'.ownsRow p.w0.heap.size 27 5 v1 (out.length + 1) (out.flatMap cT ++ cT y) ∧ W.grownBy W' (Value.slice Ao out.length co).ownBlock ∧ Came (.slice Ao out.length co) v1 W
theorem PendO.store {y : S27} {v1 : Value} (h : PendO p As cs st Ao co out y v1 W') : TwoE p st (out ++ [y]) (W'.setCell p.ho v1) := by
  obtain ⟨W, h, ho, hg, hat⟩ := h
  obtain ⟨A1, c1, rfl⟩ := own_slice ho
  exact ⟨_, _, _, _, h.putO ho hg hat⟩
theorem PendO.home {y : S27} {v1 : Value} (h : PendO p As cs st Ao co out y v1 W') : Home W' p.ho p.tq (.slice Ao out.length co) := by
  obtain ⟨W, h, ho, hg, hat⟩ := h
  exact h.hO.grown hg (h.hO.row_ne h.rO h.ok.n4)
/-- The frames' row has grown; the cell is not yet written. -/
def PendS (p : Pm) (As : Option Addr) (cs : Nat) (st : List Fr) (Ao : Option Addr) (co : Nat) (out : List S27) (y : Fr) (v1 : Value) (W' : World) : Prop :=
  ∃ W, Two p As cs st Ao co out W ∧ W'.ownsRow p.w0.heap.size p.es 2 v1 (st.length + 1) (st.flatMap cF ++ cF y) ∧ W.grownBy W' (Value.slice As st.length cs).ownBlock ∧ Came (.slice As st.length cs) v1 W
theorem PendS.store {y : Fr} {v1 : Value} (h : PendS p As cs st Ao co out y v1 W') : TwoE p (st ++ [y]) out (W'.setCell p.hs v1) := by
  obtain ⟨W, h, ho, hg, hat⟩ := h
  obtain ⟨A1, c1, rfl⟩ := own_slice ho
  exact ⟨_, _, _, _, h.putS ho hg hat⟩
theorem PendS.home {y : Fr} {v1 : Value} (h : PendS p As cs st Ao co out y v1 W') : Home W' p.hs p.ts (.slice As st.length cs) := by
  obtain ⟨W, h, ho, hg, hat⟩ := h
  exact h.hS.grown hg (h.hS.row_ne h.rS h.ok.n1)
end
end Go.Proofs.Ytchbjjefjmcakaa.Lb
