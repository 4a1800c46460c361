import Derived.Test.YtijjebogbjaeiaaSd
namespace Go.Proofs.Ytijjebogbjaeiaa.St
open Go.RowKit Go.Proofs.Ytijjebogbjaeiaa.PStoreScript Go.Proofs.YtijjebogbjaeiaaW.PrintWords Go.Proofs.YtijjebogbjaeiaaW.PrintLast Go.Proofs.YtijjebogbjaeiaaW.PrintMore
set_option linter.unusedVariables false
set_option linter.unusedSimpArgs false

def tot : List It → Int
  | [] => 0
  | x :: r => (x.k.size : Int) + (x.v.size : Int) + tot r
theorem tot_append : ∀ (p q : List It), tot (p ++ q) = tot p + tot q
  | [], q => by simp [tot]
  | x :: p, q => by simp only [List.cons_append, tot, tot_append p q]; omega
theorem tot_nonneg : ∀ (p : List It), 0 ≤ tot p
  | [] => by simp [tot]
  | x :: p => by simp only [tot]; have := tot_nonneg p; omega
theorem tot_mid (p q : List It) (x : It) : tot (p ++ x :: q) = (x.k.size : Int) + (x.v.size : Int) + tot (p ++ q) := by
  rw [tot_append, tot_append, tot]; omega

def Own (sb rb mb : Nat) (its : List It) (k : Nat) : Prop := k = sb ∨ k = mb ∨ k ∈ rb :: its.map It.b

structure Sto (w : World) (sb rb mb : Nat) (room : Int) (its : List It) : Prop where
  hs : w.heap[sb]? = some (sob room (tot its) rb mb)
  hr : Ring w rb its
  hm : Mp w mb its
  keys : (its.map It.k).Nodup
  one : ∀ x ∈ its, x.k.size = 1
  le : tot its ≤ room
  lo : 0 ≤ room
  hi : room ≤ 16777216

theorem Sto.size {w : World} {sb rb mb : Nat} {room : Int} {its : List It} (h : Sto w sb rb mb room its) : sb < w.heap.size ∧ mb < w.heap.size := by
  obtain ⟨es, clock, hb, _⟩ := h.hm
  exact ⟨blk_lt h.hs, blk_lt hb⟩
theorem mb_ne {w : World} {mb n : Nat} {its : List It} {cs : Array Value} {t : TypeId} (h : Mp w mb its) (h' : w.heap[n]? = some (.cells cs t (0, 0))) : n ≠ mb := by
  rintro rfl
  obtain ⟨es, clock, hb, _⟩ := h
  rw [hb] at h'
  cases h'
theorem turned_fr {w w1 w' : World} {b : Nat} {S : Nat → Prop} (h : Fr w w1 S) (k : w1.mapTurned w' b) (hb : S b ∨ w.heap.size ≤ b) : Fr w w' S :=
  ⟨k.grown.os.trans h.os, k.grown.tape.trans h.tape, k.grown.output.trans h.output, Kept.of_grown k.grown h.kept (fun k hk => by cases hk; exact hb)⟩
theorem turned_blk {w w' : World} {b n : Nat} {o : Obj} (k : w.mapTurned w' b) (h : w.heap[n]? = some o) (hn : n ≠ b) : w'.heap[n]? = some o := blk_grown h k.grown (by simpa using hn)

/-- A map's law at the operation 'delete', said of any law on its run. -/
theorem wp_delete {w : World} {ops : Array Oper} {rest : List Oper} {o : Oper} {a : Act} {Q : Exit → Act → World → Prop} {p q : List It} {x : It} {mb : Nat}
    (hg : o.guard = none) (m y : Operand) (hop : o.op = Op.call { callee := Callee.builtin Builtin.delete, args := #[m, y], argTypes := #[50, 9] })
    (hm : a.eval m = .map (some mb)) (hy : a.eval y = .string x.k) (h : Mp w mb (p ++ x :: q)) (hk : x.k.size ≤ maxLen) (hno : ∀ z ∈ p ++ q, z.k ≠ x.k)
    (hK : ∀ w', Mp w' mb (p ++ q) → w.mapTurned w' mb → wpList Try.prog ops Q rest (a.put o.dst (.tuple #[])) w') :
    wpList Try.prog ops Q (o :: rest) a w := by
  refine wpList_plain hg fun K' hK' => ?_
  obtain ⟨w', hrun, r1, r2⟩ := h.drop hk hno o.type
  unfold Oper.wp
  simp [execOp, hop, resolve, invoke, builtin, hm, hy, hrun, Result.andThen]
  exact hK' _ _ (hK w' r1 r2)
theorem wp_update {w : World} {ops : Array Oper} {rest : List Oper} {o : Oper} {a : Act} {Q : Exit → Act → World → Prop} {its : List It} {key : ByteArray} {b mb : Nat} (v : ByteArray)
    (hg : o.guard = none) (m y z : Operand) (hop : o.op = Op.mapUpdate 50 m y z)
    (hm : a.eval m = .map (some mb)) (hy : a.eval y = .string key) (hz : a.eval z = .pointer (some ⟨b, 0, none⟩)) (h : Mp w mb its) (hk : key.size ≤ maxLen) (hno : ∀ x ∈ its, x.k ≠ key) (hn : its.length < maxLen)
    (hK : ∀ w', Mp w' mb (⟨key, v, b⟩ :: its) → w.mapTurned w' mb → wpList Try.prog ops Q rest (a.put o.dst undef) w') :
    wpList Try.prog ops Q (o :: rest) a w := by
  refine wpList_plain hg fun K' hK' => ?_
  obtain ⟨w', hrun, r1, r2⟩ := h.put (b := b) hk hno hn v
  unfold Oper.wp
  simp [execOp, hop, hm, hy, hz, hrun, Result.andThen]
  exact hK' _ _ (hK w' r1 r2)

theorem out_calls (w : World) (rb : Nat) (p q : List It) (x : It) (h : Ring w rb (p ++ x :: q)) :
    Calls Try.prog 16 #[.pointer (some ⟨x.b, 0, none⟩)] w fun e w' => e = .returned (.tuple #[]) ∧ Ring w' rb (p ++ q) ∧ (∃ l o, w'.heap[x.b]? = some (ob x.k x.v l o)) ∧ Fr w w' (fun k => k ∈ rb :: (p ++ x :: q).map It.b) := by
  obtain ⟨L, O, h1, h2, hr, hi⟩ := h
  have e : (p ++ x :: q).map It.b = p.map It.b ++ x.b :: q.map It.b := by simp
  have hl : L x.b ∈ rb :: (p ++ x :: q).map It.b := by
    have h1 := h1
    rw [e] at h1
    have := lnk_last _ _ _ (lnk_append _ _ _ _ _ h1).1
    simp only [List.mem_cons, List.map_append, List.mem_append, List.map_cons] at this ⊢
    rcases this with h | h
    · exact Or.inl h
    · exact Or.inr (Or.inl h)
  have ho : O x.b ∈ rb :: (p ++ x :: q).map It.b := by
    have h1 := h1
    rw [e] at h1
    have := (lnk_first (lnk_append _ _ _ _ _ h1).2).1
    simp only [List.mem_cons, List.map_append, List.mem_append, List.map_cons, List.not_mem_nil, or_false] at this ⊢
    rcases this with h | h
    · exact Or.inr (Or.inr (Or.inr h))
    · exact Or.inl h
  obtain ⟨kl_, vl_, hl'⟩ := Ring.node hr hi hl
  obtain ⟨ko_, vo_, ho'⟩ := Ring.node hr hi ho
  refine (out_walk w x.b (L x.b) (O x.b) _ _ _ _ _ _ _ _ _ _ (hi x (by simp)) hl' ho').mono ?_
  rintro e w' ⟨rfl, n, rfl⟩
  refine ⟨rfl, ?_, ⟨_, _, ob_setL (ob_setO (blk_drewN (hi x (by simp)) n))⟩, ((Fr.drewN (Fr.refl _ _) n).set (Or.inl hl) _).set (Or.inl ho) _⟩
  exact Ring.out h1 h2 (blk_drewN hr n) (fun y hy => blk_drewN (hi y hy) n)

theorem front_calls (w : World) (sb rb mb : Nat) (room u : Int) (its : List It) (x : It) (va vb : Value) (hs : w.heap[sb]? = some (sob room u rb mb)) (h : Ring w rb its) (hx : w.heap[x.b]? = some (obv x.k x.v va vb)) (hn : x.b ∉ rb :: its.map It.b) :
    Calls Try.prog 17 #[.pointer (some ⟨sb, 0, none⟩), .pointer (some ⟨x.b, 0, none⟩)] w fun e w' => e = .returned (.tuple #[]) ∧ Ring w' rb (x :: its) ∧ Fr w w' (fun k => k ∈ rb :: (x :: its).map It.b) := by
  obtain ⟨L, O, h1, h2, hr, hi⟩ := h
  have ho : O rb ∈ rb :: its.map It.b := by
    have := (lnk_first h1).1
    simp only [List.mem_cons, List.mem_append, List.not_mem_nil, or_false] at this ⊢
    exact this.symm
  obtain ⟨ko_, vo_, ho'⟩ := Ring.node hr hi ho
  refine (front_walk w sb x.b rb (O rb) mb room u _ _ _ _ _ _ _ _ _ _ _ hs hx hr ho').mono ?_
  rintro e w' ⟨rfl, rfl⟩
  have hu : ∀ k, k ∈ rb :: its.map It.b → k ∈ rb :: (x :: its).map It.b := fun k hk => by
    simp only [List.map_cons, List.mem_cons] at hk ⊢
    rcases hk with h | h
    · exact Or.inl h
    · exact Or.inr (Or.inr h)
  exact ⟨rfl, Ring.front h1 h2 hn hr hi hx, ((((Fr.refl _ _).set (Or.inl (by simp)) _).set (Or.inl (by simp)) _).set (Or.inl (hu _ ho)) _).set (Or.inl (by simp)) _⟩

theorem ring_sb {w : World} {sb rb mb : Nat} {room u : Int} {its : List It} (hs : w.heap[sb]? = some (sob room u rb mb)) (h : Ring w rb its) : ∀ k ∈ rb :: its.map It.b, sb ≠ k := by
  obtain ⟨L, O, h1, h2, hr, hi⟩ := h
  intro k hk
  obtain ⟨_, _, hk'⟩ := Ring.node hr hi hk
  exact sob_ne hs hk'
theorem ring_mb {w : World} {rb mb : Nat} {its its' : List It} (hm : Mp w mb its') (h : Ring w rb its) : ∀ k ∈ rb :: its.map It.b, mb ≠ k := by
  obtain ⟨L, O, h1, h2, hr, hi⟩ := h
  intro k hk
  obtain ⟨_, _, hk'⟩ := Ring.node hr hi hk
  exact (mb_ne hm hk').symm
theorem Mp.lt {w : World} {mb : Nat} {its : List It} (h : Mp w mb its) : mb < w.heap.size := by
  obtain ⟨es, clock, hb, _⟩ := h
  exact blk_lt hb
theorem Mp.kept {w w' : World} {mb : Nat} {its : List It} {S : Nat → Prop} (h : Mp w mb its) (hk : Kept w w' S) (hn : ¬ S mb) : Mp w' mb its := h.keep (hk.2 _ h.lt hn)

set_option maxHeartbeats 1000000 in
theorem drop_walk (w : World) (sb rb mb : Nat) (room u1 u2 : Int) (p q : List It) (x : It) (hs : w.heap[sb]? = some (sob room u1 rb mb)) (hr : Ring w rb (p ++ x :: q)) (hm : Mp w mb (p ++ x :: q)) (hk : x.k.size ≤ maxLen) (hno : ∀ z ∈ p ++ q, z.k ≠ x.k)
    (hw1 : IntKind.i64.wrap ((x.k.size : Int) + (x.v.size : Int)) = (x.k.size : Int) + (x.v.size : Int)) (hw2 : IntKind.i64.wrap (u1 - ((x.k.size : Int) + (x.v.size : Int))) = u2) :
    Calls Try.prog 15 #[.pointer (some ⟨sb, 0, none⟩), .pointer (some ⟨x.b, 0, none⟩)] w fun e w' => e = .returned (.tuple #[]) ∧ w'.heap[sb]? = some (sob room u2 rb mb) ∧ Ring w' rb (p ++ q) ∧ Mp w' mb (p ++ q) ∧ Fr w w' (Own sb rb mb (p ++ x :: q)) := by
  have hx : ∃ l o, w.heap[x.b]? = some (ob x.k x.v l o) := by
    obtain ⟨L, O, g1, g2, gr, gi⟩ := hr
    exact ⟨_, _, gi x (by simp)⟩
  obtain ⟨l, o, hx⟩ := hx
  obtain ⟨x0, x1, x2, x3, -, -⟩ := ob_cells hx
  obtain ⟨s0, s1, s2, s3, fs1⟩ := sob_cells hs
  have HS := Go.Lib.hid hs
  have HX := Go.Lib.hid hx
  have GR := Go.Lib.hid hr
  have HM := Go.Lib.hid hm
  have HN := Go.Lib.hid hno
  have HK := Go.Lib.hid hk
  clear hs hx hr hm hno hk
  go_enter Try.func15, Try.ntmps15
  go_wp2
  go_still_tail 18, (by kernel_rfl)
  change wpList _ _ _ _ _ w.drew
  obtain ⟨wa, hwa⟩ : ∃ wa, wa = w.drew := ⟨_, rfl⟩
  rw [← hwa]
  have HWA := Go.Lib.hid hwa
  clear hwa
  have a1 : wa.cell? ⟨sb, 1, none⟩ = some (.int .i64 u1) := by rw [HWA.out]; exact s1
  have fa1 : wa.frozen? ⟨sb, 1, none⟩ = false := by rw [HWA.out]; exact fs1
  clear x0 x1 x2 x3 s0 s1 s2 s3 fs1
  go_upto_region 1 with fail
  obtain ⟨wb, hwb⟩ : ∃ wb, wb = wa.setCell ⟨sb, 1, none⟩ (.int .i64 u2) := ⟨_, rfl⟩
  rw [← hwb]
  have hs2 : wb.heap[sb]? = some (sob room u2 rb mb) := by rw [hwb]; exact blk_put (by rw [HWA.out]; exact HS.out) 1 _ rfl
  have hfar : ∀ n k v l o, w.heap[n]? = some (ob k v l o) → wb.heap[n]? = some (ob k v l o) := fun n k v l o h => by
    rw [hwb]; exact blk_far (by rw [HWA.out]; exact h) (sob_ne HS.out h).symm _
  have hm2 : Mp wb mb (p ++ x :: q) := HM.out.keep (by rw [hwb, HWA.out]; exact Below.heap_setCell _ _ _ _ (mb_ne HM.out HS.out).symm)
  have FB := Go.Lib.hid (show Fr w wb (Own sb rb mb (p ++ x :: q)) by rw [hwb, HWA.out]; exact (Fr.drewN (Fr.refl _ _) 1).set (Or.inl (Or.inl rfl)) _)
  have HFAR := Go.Lib.hid hfar
  have HS2 := Go.Lib.hid hs2
  have HM2 := Go.Lib.hid hm2
  clear a1 fa1 hwb hs2 hm2 hfar
  obtain ⟨x0, -, -, -, -, -⟩ := ob_cells (HFAR.out _ _ _ _ _ HX.out)
  obtain ⟨-, -, -, s3, -⟩ := sob_cells HS2.out
  go_still_tail 8, (by kernel_rfl)
  change wpList _ _ _ _ _ wb.drew
  obtain ⟨wc, hwc⟩ : ∃ wc, wc = wb.drew := ⟨_, rfl⟩
  rw [← hwc]
  have hm3 : Mp wc mb (p ++ x :: q) := HM2.out.keep (by rw [hwc]; rfl)
  have HC := Go.Lib.hid hwc
  have HM3 := Go.Lib.hid hm3
  clear hwc hm3 x0 s3
  go_wp2_with (first | (at_delete; refine wp_delete rfl _ _ rfl rfl rfl HM3.out HK.out HN.out ?_; intro wd hm4 ht; have HM4 := Go.Lib.hid hm4; have HT := Go.Lib.hid ht; clear hm4 ht) | fail)
  have hs4 : wd.heap[sb]? = some (sob room u2 rb mb) := turned_blk HT.out (by rw [HC.out]; exact HS2.out) (mb_ne HM2.out HS2.out)
  have F4 : Fr w wd (Own sb rb mb (p ++ x :: q)) := turned_fr (by rw [HC.out]; exact FB.out.drewN 1) HT.out (Or.inl (Or.inr (Or.inl rfl)))
  have hr4 : Ring wd rb (p ++ x :: q) := by
    obtain ⟨L, O, g1, g2, gr, gi⟩ := GR.out
    have hfd : ∀ n k v l o, w.heap[n]? = some (ob k v l o) → wd.heap[n]? = some (ob k v l o) := fun n k v l o h => by
      have h1 := HFAR.out _ _ _ _ _ h
      exact turned_blk HT.out (by rw [HC.out]; exact h1) (mb_ne HM2.out h1)
    exact ⟨L, O, g1, g2, hfd _ _ _ _ _ gr, fun y hy => hfd _ _ _ _ _ (gi y hy)⟩
  refine (out_calls wd rb p q x hr4).mono ?_
  rintro e w' ⟨rfl, hr5, -, F5⟩
  have hs5 := blk_kept hs4 F5.kept (fun h => ring_sb hs4 hr4 _ h rfl)
  have hm5 := HM4.out.kept F5.kept (fun h => ring_mb HM4.out hr4 _ h rfl)
  have F6 := F4.trans F5 (fun k hk => Or.inl (Or.inr (Or.inr hk)))
  have POST := Go.Lib.hid (And.intro hs5 (And.intro hr5 (And.intro hm5 F6)))
  clear hs5 hr5 hm5 F6 F5 F4 hs4 hr4
  go_wp2
  go_end0
  exact ⟨rfl, POST.out⟩

theorem wrap_id {n : Int} (h0 : -9223372036854775808 ≤ n) (h1 : n ≤ 9223372036854775807) : IntKind.i64.wrap n = n := Go.IntWalk.i64_in n ⟨h0, h1⟩
theorem nodup_mid {α : Type} {p q : List α} {x : α} (h : (p ++ x :: q).Nodup) : x ∉ p ++ q ∧ (p ++ q).Nodup := List.nodup_cons.1 (List.perm_middle.nodup_iff.1 h)

theorem drop_calls (w : World) (sb rb mb : Nat) (room : Int) (p q : List It) (x : It) (h : Sto w sb rb mb room (p ++ x :: q)) :
    Calls Try.prog 15 #[.pointer (some ⟨sb, 0, none⟩), .pointer (some ⟨x.b, 0, none⟩)] w fun e w' => e = .returned (.tuple #[]) ∧ Sto w' sb rb mb room (p ++ q) ∧ Fr w w' (Own sb rb mb (p ++ x :: q)) := by
  have ht := tot_mid p q x
  have h0 := tot_nonneg (p ++ q)
  have hle := h.le
  have hhi := h.hi
  have hone := h.one x (by simp)
  have hkeys := h.keys
  have hn : ∀ z ∈ p ++ q, z.k ≠ x.k := by
    intro z hz e
    rw [List.map_append, List.map_cons] at hkeys
    exact (nodup_mid hkeys).1 (by rw [← List.map_append, ← e]; exact List.mem_map.2 ⟨z, hz, rfl⟩)
  refine (drop_walk w sb rb mb room (tot (p ++ x :: q)) (tot (p ++ q)) p q x h.hs h.hr h.hm (by rw [hone]; decide) hn (wrap_id (by omega) (by omega)) ?_).mono ?_
  · rw [wrap_id (by omega) (by omega)]; omega
  · rintro e w' ⟨rfl, h1, h2, h3, h4⟩
    refine ⟨rfl, ⟨h1, h2, h3, ?_, fun y hy => h.one y ?_, by omega, h.lo, h.hi⟩, h4⟩
    · rw [List.map_append, List.map_cons] at hkeys
      rw [List.map_append]
      exact (nodup_mid hkeys).2
    · simp only [List.mem_append, List.mem_cons] at hy ⊢
      rcases hy with hy | hy
      · exact Or.inl hy
      · exact Or.inr (Or.inr hy)
end Go.Proofs.Ytijjebogbjaeiaa.St
