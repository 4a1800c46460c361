import Derived.Test.YtlkoihhlbhcfpaaFd
import Derived.Deep.AppendLies
import Derived.Deep.RegionLaw
import Derived.Deep.RegionHeld3
import Derived.StillTailTactics
namespace Go.Proofs.Ytlkoihhlbhcfpaa.Fx
open Go.RowKit Go.Proofs.Ytlkoihhlbhcfpaa.PFixityTree Go.Proofs.YtlkoihhlbhcfpaaW.PrintWords Go.Proofs.YtlkoihhlbhcfpaaW.PrintLast Go.Proofs.YtlkoihhlbhcfpaaW.PrintMore
set_option linter.unusedVariables false
set_option linter.unusedSimpArgs false

/-- The builder's block. -/
def Bld (w : World) (g : Nat) (tv iv : Value) (at_ : Int) (ov : Value) (e : Int) : Prop := w.heap[g]? = some (.cells #[tv, iv, .int .i64 at_, ov, .int .i64 e] 39 (0, 0))
/-- What put and climb leave: all old blocks but the builder's and the row's. -/
structure Frm (base g : Nat) (w w' : World) : Prop where
  os : w'.os = w.os
  tape : w'.tape = w.tape
  output : w'.output = w.output
  size : w.heap.size ≤ w'.heap.size
  block : ∀ i o, w.heap[i]? = some o → i ≠ g → (i < base ∨ ∃ cs t, o = .cells cs t (0, 0) ∧ t ≠ 35) → w'.heap[i]? = some o

theorem Frm.refl (base g : Nat) (w : World) : Frm base g w w := ⟨rfl, rfl, rfl, Nat.le_refl _, fun _ _ h _ _ => h⟩
theorem Frm.trans {base g : Nat} {w w1 w2 : World} (h : Frm base g w w1) (k : Frm base g w1 w2) : Frm base g w w2 :=
  ⟨k.os.trans h.os, k.tape.trans h.tape, k.output.trans h.output, Nat.le_trans h.size k.size, fun i o hi hg hc => k.block i o (h.block i o hi hg hc) hg hc⟩
theorem Frm.below {base g : Nat} {w w1 : World} (h : Below w.heap.size w w1) : Frm base g w w1 := ⟨h.os, h.tape, h.output, h.size, fun i o hi _ _ => (h.block i (blk_lt hi)).trans hi⟩
theorem Frm.set_ {base g : Nat} {w : World} (j : Nat) (v : Value) : Frm base g w (w.setCell ⟨g, j, none⟩ v) :=
  ⟨rfl, rfl, rfl, by simp [World.setCell], fun i o hi hg _ => (Below.heap_setCell w ⟨g, j, none⟩ v i hg).trans hi⟩
theorem Frm.grown {base g : Nat} {w w1 : World} {v : Value} {n size : Nat} {xs : List Value} (hown : w.ownsRow base 35 size v n xs) (h : w.grownBy w1 v.ownBlock) : Frm base g w w1 :=
  ⟨h.os, h.tape, h.output, h.size, fun i o hi hg hc => by
    refine (h.block i (blk_lt hi) ?_).trans hi
    intro he
    rcases hc with hc | ⟨cs, t, rfl, ht⟩
    · have := own_base hown i he.symm; omega
    · exact own_ne hown hi (fun h => ht h.symm) he⟩

theorem news4 {w : World} {o : Obj} {a b c d : Value} : ∀ j u, [a, b, c, d][j]? = some u → ((w.alloc o).alloc (.cells #[a, b, c, d] 35)).drew.cell? ((⟨w.heap.size + 1, 0, none⟩ : Addr).add j) = some u := by
  intro j u hu
  show ((w.alloc o).alloc (.cells #[a, b, c, d] 35)).cell? ((⟨w.heap.size + 1, 0, none⟩ : Addr).add j) = some u
  rw [add_plain]
  have h : ((w.alloc o).alloc (.cells #[a, b, c, d] 35)).heap[w.heap.size + 1]? = some (.cells #[a, b, c, d] 35) := by simpa using blk_new (w.alloc o) (.cells #[a, b, c, d] 35)
  rw [blk_cell h j]
  simpa using hu

theorem bld_grown {w w1 : World} {g : Nat} {tv iv ov : Value} {at_ e : Int} {o o' : Obj} {row : Option Nat} (hB : Bld w g tv iv at_ ov e) (hg : ((w.alloc o).alloc o').drew.grownBy w1 row) (hne : some g ≠ row) : Bld w1 g tv iv at_ ov e :=
  (hg.block g (blk_lt (blk_alloc (blk_alloc hB o) o')) hne).trans (blk_alloc (blk_alloc hB o) o')
theorem Bld.c3 {w : World} {g : Nat} {tv iv ov : Value} {at_ e : Int} (hB : Bld w g tv iv at_ ov e) : w.cell? ⟨g, 3, none⟩ = some ov ∧ w.frozen? ⟨g, 3, none⟩ = false := ⟨(blk_cell hB 3).trans rfl, blk_frozen hB 3⟩

theorem reps_any {w w' : World} {base base' : Nat} {ok ok' : Nat → Prop} {xs : List S35} {inner : List Value} (h : Reps (k35.M w base ok) k35.sz xs inner) : Reps (k35.M w' base' ok') k35.sz xs inner :=
  h.imp_ (fun p c hp => by rw [k35_openM hp]; exact k35_mkM _ _ _ p)
theorem put_end {base g : Nat} {w w1 : World} {tv iv ov : Value} {at_ e : Int} {xs : List S35} {y : S35} {inner : List Value} {o o' : Obj} {g' cap' : Nat}
    (hrep : Reps (k35.M w base (fun k => True ∧ some k ≠ ov.ownBlock)) k35.sz xs inner) (hown : w.ownsRow base 35 4 ov xs.length inner)
    (hB1 : Bld w1 g tv iv at_ ov e) (hO1 : w1.ownsRow base 35 4 (.slice (some ⟨g', 0, none⟩) (xs.length + 1) cap') (xs.length + 1) (inner ++ [.string y.f0, .int .i64 y.f1, .int .i64 y.f2, .int .i64 y.f3])) (hg : ((w.alloc o).alloc o').drew.grownBy w1 ov.ownBlock) :
    ∃ ov', Bld (w1.setCell ⟨g, 3, none⟩ (.slice (some ⟨g', 0, none⟩) (xs.length + 1) cap')) g tv iv at_ ov' e ∧ Kd.R k35 35 (w1.setCell ⟨g, 3, none⟩ (.slice (some ⟨g', 0, none⟩) (xs.length + 1) cap')) base (fun _ => True) ov' (xs ++ [y]) ∧ Frm base g w (w1.setCell ⟨g, 3, none⟩ (.slice (some ⟨g', 0, none⟩) (xs.length + 1) cap')) := by
  refine ⟨.slice (some ⟨g', 0, none⟩) (xs.length + 1) cap', blk_put hB1 3 _ rfl, ⟨fun _ _ => trivial, inner ++ [.string y.f0, .int .i64 y.f1, .int .i64 y.f2, .int .i64 y.f3], ?_, ?_⟩, ?_⟩
  · rw [List.length_append]
    exact own_setCell (p := ⟨g, 3, none⟩) hO1 (own_ne (g := g) (t := 39) hO1 hB1 (by decide)) _
  · exact (reps_any hrep).snoc (k35_mkM _ _ _ y) rfl
  · have hb : Below w.heap.size w ((w.alloc o).alloc o').drew := below_drew1 (below_alloc (below_alloc (Below.refl _ _) _) _)
    exact ((Frm.below hb).trans (Frm.grown (pw_own_below hown hb) hg)).trans (Frm.set_ _ _)

set_option maxHeartbeats 4000000 in
set_option maxRecDepth 100000 in
theorem put_calls (base g : Nat) (w : World) (tv iv ov : Value) (at_ e : Int) (xs : List S35) (y : S35) (hB : Bld w g tv iv at_ ov e) (hO : Kd.R k35 35 w base (fun _ => True) ov xs) (hb : base ≤ w.heap.size) (hl : xs.length ≤ 1000) :
    Calls Try.prog 13 #[.pointer (some ⟨g, 0, none⟩), .agg #[.string y.f0, .int .i64 y.f1, .int .i64 y.f2, .int .i64 y.f3]] w fun e' w' => e' = .returned (.int .i64 xs.length) ∧ ∃ ov', Bld w' g tv iv at_ ov' e ∧ Kd.R k35 35 w' base (fun _ => True) ov' (xs ++ [y]) ∧ Frm base g w w' := by
  obtain ⟨h0, inner, hown, hrep⟩ := hO
  have hB1 := fun o => blk_alloc hB o
  have c3 : ∀ o, (w.alloc o).cell? ⟨g, 3, none⟩ = some ov := fun o => (blk_cell (hB1 o) 3).trans rfl
  have c3' : ∀ o o', ((w.alloc o).alloc o').cell? ⟨g, 3, none⟩ = some ov := fun o o' => (blk_cell (blk_alloc (hB1 o) o') 3).trans rfl
  have hO1 := Go.Lib.hid (fun o o' => (own_alloc (own_alloc hown o) o' : ((w.alloc o).alloc o').ownsRow base 35 4 ov xs.length inner))
  have HREP := Go.Lib.hid hrep
  have HB := Go.Lib.hid hB
  have hb' := Go.Lib.hid (fun o o' => (by simp; omega : base ≤ ((w.alloc o).alloc o').heap.size))
  have hne := Go.Lib.hid (own_ne hown hB (by decide))
  obtain ⟨i0, hi, hz, hs, hby⟩ := info_parts info35
  have HOWN := Go.Lib.hid hown
  clear hB hB1 hown hrep h0
  go_enter Try.func13, Try.ntmps13
  go_wp2_with fail
  go_region_law ((refine step_append_lies _ rfl (.tmp 9) (.tmp 11) 24 rfl base 35 i0 (.agg #[(.string ⟨#[]⟩), (.int .i64 0), (.int .i64 0), (.int .i64 0)]) 4 40 Try.underlying24 hi hz hs hby rfl ?a0 ov xs.length inner ?a1 (hO1.out _ _) ⟨(w.heap.size + 1), 0, none⟩ 1 1 [.string y.f0, .int .i64 y.f1, .int .i64 y.f2, .int .i64 y.f3] ?a2 rfl news4 (fun u hu => k35.K_one (k35_mk w y) u hu) ?a3 ?a4 ?a5 (hb'.out _ _) _ rfl (fun g' cap' w1 hown1 hg1 hat1 hlt1 => ?_)); (case a0 => decide); (case a1 => simp [Act.eval, Act.put]); (case a2 => simp [Act.eval, Act.put]); (case a3 => decide); (case a4 => unfold maxLen; omega); (case a5 => omega); have hB1 := Go.Lib.hid (bld_grown HB.out hg1 hne.out); have HO1 := Go.Lib.hid hown1; have HG1 := Go.Lib.hid hg1; clear hown1 hg1 hat1 hlt1; obtain ⟨k3, f3'⟩ := Bld.c3 hB1.out)
  all_goals
    go_wp2_with fail
    go_ret
    exact ⟨rfl, put_end HREP.out HOWN.out hB1.out HO1.out HG1.out⟩
end Go.Proofs.Ytlkoihhlbhcfpaa.Fx
