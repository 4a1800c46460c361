import Derived.Test.YtijjebogbjaeiaaSi
namespace Go.Proofs.Ytijjebogbjaeiaa.St
open Go.Shelf Go.RowKit Go.Proofs.Ytijjebogbjaeiaa.PStoreScript Go.Proofs.YtijjebogbjaeiaaW.PrintWords Go.Proofs.YtijjebogbjaeiaaW.PrintLast Go.Proofs.YtijjebogbjaeiaaW.PrintMore
set_option linter.unusedVariables false
set_option linter.unusedSimpArgs false

/-! ### how many stay -/
def sm : List Nat → Int
  | [] => 0
  | s :: r => (s : Int) + sm r
def fitN : Int → List Nat → Nat
  | _, [] => 0
  | lim, s :: r => if (s : Int) ≤ lim then fitN (lim - s) r + 1 else 0
theorem sm_nonneg : ∀ l, 0 ≤ sm l
  | [] => Int.le_refl _
  | s :: r => by simp only [sm]; have := sm_nonneg r; omega
theorem fitN_le : ∀ (lim : Int) (l : List Nat), fitN lim l ≤ l.length
  | _, [] => Nat.le_refl _
  | lim, s :: r => by
    unfold fitN
    split
    · have := fitN_le (lim - s) r
      simp only [List.length_cons]; omega
    · simp
theorem fitN_fits : ∀ (lim : Int) (l : List Nat), 0 ≤ lim → sm (l.take (fitN lim l)) ≤ lim
  | _, [], h => by simpa [fitN, sm] using h
  | lim, s :: r, h => by
    unfold fitN
    split
    · rename_i h1
      have := fitN_fits (lim - s) r (by omega)
      simp only [List.take_succ_cons, sm]; omega
    · simpa [sm] using h
theorem fitN_max : ∀ (lim : Int) (l : List Nat) (j : Nat), j ≤ l.length → sm (l.take j) ≤ lim → j ≤ fitN lim l
  | _, [], j, hj, _ => Nat.le_trans hj (Nat.zero_le _)
  | lim, s :: r, 0, _, _ => Nat.zero_le _
  | lim, s :: r, j + 1, hj, h => by
    simp only [List.take_succ_cons, sm] at h
    have h0 := sm_nonneg (r.take j)
    unfold fitN
    rw [if_pos (by omega)]
    have := fitN_max (lim - s) r j (by simpa using hj) (by omega)
    omega

def szs (its : List It) : List Nat := its.map (fun x => x.k.size + x.v.size)
theorem tot_sm : ∀ (its : List It), tot its = sm (szs its)
  | [] => rfl
  | x :: r => by simp only [tot, szs, List.map_cons, sm, tot_sm r]; simp [szs]
theorem szs_take (its : List It) (j : Nat) : szs (its.take j) = (szs its).take j := by simp [szs, List.map_take]

set_option maxHeartbeats 1000000 in
theorem put_full (w : World) (sb rb mb : Nat) (room : Int) (its : List It) (key value : ByteArray) (h : Sto w sb rb mb room its) (hk : key.size = 1) (hv : value.size ≤ 281474976710656) (hfit : room < (key.size : Int) + (value.size : Int)) :
    Calls Try.prog 10 #[.pointer (some ⟨sb, 0, none⟩), .string key, .string value] w fun e w' => e = .returned (.tuple #[.slice none 0 0, .int .i64 16]) ∧ w' = w := by
  obtain ⟨s0, -, -, -, -⟩ := sob_cells h.hs
  have hw1 := wrap_id (n := (key.size : Int) + (value.size : Int)) (by omega) (by omega)
  have hd := decide_eq_true hfit
  clear h hk hv hfit
  go_enter Try.func10, Try.ntmps10
  go_wp2
  go_ret2
  exact ⟨rfl, rfl⟩

theorem filter_none {its : List It} {key : ByteArray} (hno : ∀ x ∈ its, x.k ≠ key) : its.filter (fun x => decide (x.k ≠ key)) = its := List.filter_eq_self.2 (fun x hx => decide_eq_true (hno x hx))
theorem filter_some {p q : List It} {x : It} (hn : ((p ++ x :: q).map It.k).Nodup) : (p ++ x :: q).filter (fun y => decide (y.k ≠ x.k)) = p ++ q := by
  rw [List.map_append, List.map_cons] at hn
  have h1 := (nodup_mid hn).1
  rw [← List.map_append] at h1
  have h2 : ∀ y ∈ p ++ q, y.k ≠ x.k := fun y hy e => h1 (e ▸ List.mem_map.2 ⟨y, hy, rfl⟩)
  rw [List.filter_append, List.filter_cons, if_neg (by simp), ← List.filter_append]
  exact filter_none h2

/-- The facts that the eviction wants of a store. -/
theorem Sto.last {w : World} {sb rb mb : Nat} {room : Int} {p : List It} {y : It} (h : Sto w sb rb mb room (p ++ [y])) :
    w.cell? ⟨rb, 2, none⟩ = some (.pointer (some ⟨y.b, 0, none⟩)) ∧ w.cell? ⟨y.b, 0, none⟩ = some (.string y.k) := by
  obtain ⟨L, O, h1, h2, hr, hi⟩ := h.hr
  rw [List.map_append] at h1
  have h3 := (lnk_append _ _ _ _ _ h1).2
  have h4 : L rb = y.b := h3.2
  rw [h4] at hr
  exact ⟨(ob_cells hr).2.2.1, (ob_cells (hi y (by simp))).1⟩
theorem Sto.below {w w' : World} {sb rb mb B : Nat} {room : Int} {its : List It} (h : Sto w sb rb mb room its) (hb : Below B w w') (hl : ∀ k, Own sb rb mb its k → k < B) : Sto w' sb rb mb room its :=
  h.fr (S := fun k => B ≤ k) ⟨hb.size, fun i _ hn => hb.block i (by omega)⟩ (fun k hk hn => by have := hl k hk; omega)
theorem own_kept {w w' : World} {B n : Nat} {v : Value} {cs : List Value} {S : Nat → Prop} (h : w.ownsRow B 9 1 v n cs) (hk : Kept w w' S) (hs : ∀ k, B ≤ k → ¬ S k) : w'.ownsRow B 9 1 v n cs :=
  own_move h (fun k hv => hk.2 k (own_lt h k hv) (hs k (own_base h k hv)))

/-- Behind the first drop. -/
structure Pre (w w1 : World) (its its1 : List It) (key : ByteArray) (sb rb mb : Nat) (room : Int) : Prop where
  sto : Sto w1 sb rb mb room its1
  fr : Fr w w1 (Own sb rb mb its)
  eq : its1 = its.filter (fun x => decide (x.k ≠ key))
  no : ∀ x ∈ its1, x.k ≠ key
  lt : ∀ k, Own sb rb mb its1 k → k < w.heap.size
  sub : ∀ k, Own sb rb mb its1 k → Own sb rb mb its k
theorem Pre.drop {w w1 : World} {p q : List It} {x : It} {sb rb mb : Nat} {room : Int} (h : Sto w sb rb mb room (p ++ x :: q)) (h1 : Sto w1 sb rb mb room (p ++ q)) (hf : Fr w w1 (Own sb rb mb (p ++ x :: q))) (he : p ++ q = (p ++ x :: q).filter (fun y => decide (y.k ≠ x.k))) :
    Pre w w1 (p ++ x :: q) (p ++ q) x.k sb rb mb room := by
  have hs : ∀ k, Own sb rb mb (p ++ q) k → Own sb rb mb (p ++ x :: q) k := by
    rintro k (h | h | h)
    · exact Or.inl h
    · exact Or.inr (Or.inl h)
    · refine Or.inr (Or.inr ?_)
      simp only [List.map_append, List.map_cons, List.mem_cons, List.mem_append] at h ⊢
      rcases h with h | h | h
      · exact Or.inl h
      · exact Or.inr (Or.inl h)
      · exact Or.inr (Or.inr (Or.inr h))
  refine ⟨h1, hf, he, fun y hy => ?_, fun k hk => h.own_lt k (hs k hk), hs⟩
  rw [he] at hy
  exact of_decide_eq_true (List.mem_filter.1 hy).2

/-- Ahead of a round of the eviction. -/
structure LoopR (w : World) (its its1 : List It) (key value : ByteArray) (sb rb mb : Nat) (room : Int) (gk j : Nat) (gs : List ByteArray) (v9 : Value) (w' : World) : Prop where
  rounds : gk = j + 1
  lo : fitN (room - ((key.size : Int) + (value.size : Int))) (szs its1) ≤ j
  hi : j ≤ its1.length
  keys : gs = ((its1.drop j).map It.k).reverse
  sto : Sto w' sb rb mb room (its1.take j)
  fr : Fr w w' (Own sb rb mb its)
  row : w'.ownsRow w.heap.size 9 1 v9 gs.length (encs Value.string gs)

theorem Own.take {sb rb mb : Nat} {its : List It} {j k : Nat} (h : Own sb rb mb (its.take j) k) : Own sb rb mb its k := by
  rcases h with h | h | h
  · exact Or.inl h
  · exact Or.inr (Or.inl h)
  · refine Or.inr (Or.inr ?_)
    simp only [List.mem_cons, List.map_take] at h ⊢
    rcases h with h | h
    · exact Or.inl h
    · exact Or.inr (List.mem_of_mem_take h)

theorem LoopR.step {w w8 w9 w10 : World} {its its1 : List It} {key value : ByteArray} {sb rb mb : Nat} {room : Int} {gk j : Nat} {gs : List ByteArray} {v9 v : Value} {y : It}
    (hP : ∀ k, Own sb rb mb its1 k → k < w.heap.size) (hP2 : ∀ k, Own sb rb mb its1 k → Own sb rb mb its k) (hR : LoopR w its its1 key value sb rb mb room gk (j + 1) gs v9 w8) (hy : its1.take (j + 1) = its1.take j ++ [y])
    (hover : room < tot (its1.take (j + 1)) + (key.size : Int) + (value.size : Int)) (hb : Below w.heap.size w8 w9) (ho : w9.ownsRow w.heap.size 9 1 v (gs ++ [y.k]).length (encs Value.string (gs ++ [y.k])))
    (hs : Sto w10 sb rb mb room (its1.take j ++ [])) (hf : Fr w9 w10 (Own sb rb mb (its1.take j ++ [y]))) (hfit : (key.size : Int) + (value.size : Int) ≤ room) :
    LoopR w its its1 key value sb rb mb room (j + 1) j (gs ++ [y.k]) v w10 := by
  have hl := hR.hi
  have hlt : ∀ k, Own sb rb mb (its1.take j ++ [y]) k → k < w.heap.size := fun k hk => hP k (Own.take (by rw [← hy] at hk; exact hk))
  refine ⟨rfl, ?_, by omega, ?_, by rw [List.append_nil] at hs; exact hs, ?_, own_kept ho hf.kept (fun k hk hn => by have := hlt k hn; omega)⟩
  · have h1 := fitN_fits (room - ((key.size : Int) + (value.size : Int))) (szs its1) (by omega)
    have h2 := hR.lo
    refine Nat.le_of_not_lt (fun h3 => ?_)
    have h4 : fitN (room - ((key.size : Int) + (value.size : Int))) (szs its1) = j + 1 := by omega
    rw [h4, ← szs_take, ← tot_sm] at h1
    omega
  · have hj : j < its1.length := by omega
    rw [List.take_succ_eq_append_getElem hj] at hy
    have hy2 : its1[j] = y := (List.cons.inj (List.append_cancel_left hy)).1
    rw [hR.keys, List.drop_eq_getElem_cons hj, hy2]
    simp
  · refine Fr.trans (S := Own sb rb mb its) ?_ hf (fun k hk => Or.inl (hP2 k (Own.take (by rw [← hy] at hk; exact hk))))
    exact ⟨hb.os.trans hR.fr.os, hb.tape.trans hR.fr.tape, hb.output.trans hR.fr.output, hR.fr.kept.then_ (S2 := fun k => w.heap.size ≤ k) ⟨hb.size, fun i _ hn => hb.block i (by omega)⟩ (fun k hk => Or.inr hk)⟩

theorem LoopR.stop {w w8 : World} {its its1 : List It} {key value : ByteArray} {sb rb mb : Nat} {room : Int} {gk j : Nat} {gs : List ByteArray} {v9 : Value}
    (hR : LoopR w its its1 key value sb rb mb room gk j gs v9 w8) (hover : ¬ room < tot (its1.take j) + (key.size : Int) + (value.size : Int)) : j = fitN (room - ((key.size : Int) + (value.size : Int))) (szs its1) := by
  have h1 := hR.lo
  have h2 := fitN_max (room - ((key.size : Int) + (value.size : Int))) (szs its1) j (by simpa [szs] using hR.hi) (by rw [← szs_take, ← tot_sm]; omega)
  omega

theorem not_own {sb rb mb : Nat} {its : List It} {B k : Nat} (h : ∀ k, Own sb rb mb its k → k < B) (hk : B ≤ k) : ¬ Own sb rb mb its k := fun hn => by have := h k hn; omega

/-- Behind 'front', the store's block is told the new sum. -/
theorem put_last {w w8 w11 w13 w14 : World} {its its1 : List It} {key value : ByteArray} {sb rb mb bx : Nat} {room : Int} {gk j : Nat} {gs : List ByteArray} {v9 : Value} {v : Int}
    (hlt : ∀ k, Own sb rb mb its1 k → k < w.heap.size) (hsub : ∀ k, Own sb rb mb its1 k → Own sb rb mb its k) (hno : ∀ x ∈ its1, x.k ≠ key) (hR : LoopR w its its1 key value sb rb mb room gk j gs v9 w8) (hk : key.size = 1)
    (hov : ¬ room < tot (its1.take j) + (key.size : Int) + (value.size : Int)) (hb : Below w8.heap.size w8 w11) (hbx : w8.heap.size ≤ bx) (ht : w11.drew.mapTurned w13 mb) (hm : Mp w13 mb (⟨key, value, bx⟩ :: its1.take j))
    (hs : w14.heap[sb]? = some (sob room (tot (its1.take j)) rb mb)) (hr : Ring w14 rb (⟨key, value, bx⟩ :: its1.take j)) (hf : Fr w13 w14 (fun k => k ∈ rb :: (⟨key, value, bx⟩ :: its1.take j : List It).map It.b)) (hmb : ¬ mb ∈ rb :: (⟨key, value, bx⟩ :: its1.take j : List It).map It.b)
    (hv : v = tot (its1.take j) + ((key.size : Int) + (value.size : Int))) :
    Sto (w14.setCell ⟨sb, 1, none⟩ (.int .i64 v)) sb rb mb room (⟨key, value, bx⟩ :: its1.take j) ∧ Fr w (w14.setCell ⟨sb, 1, none⟩ (.int .i64 v)) (Own sb rb mb its) ∧ (w14.setCell ⟨sb, 1, none⟩ (.int .i64 v)).ownsRow w.heap.size 9 1 v9 gs.length (encs Value.string gs) := by
  have hw8 : w.heap.size ≤ w8.heap.size := hR.fr.kept.1
  have hlt2 : ∀ k, Own sb rb mb (its1.take j) k → k < w.heap.size := fun k h => hlt k (Own.take h)
  have hsr := ring_sb hs hr
  have hmr : ∀ k ∈ rb :: (⟨key, value, bx⟩ :: its1.take j : List It).map It.b, mb ≠ k := fun k hk' e => hmb (e ▸ hk')
  have F1 : Fr w8 w11.drew (Own sb rb mb (its1.take j)) := Fr.drewN ⟨hb.os, hb.tape, hb.output, Kept.of_below hb _⟩ 1
  have F2 : Fr w8 w13 (Own sb rb mb (its1.take j)) := turned_fr F1 ht (Or.inl (Or.inr (Or.inl rfl)))
  have F3 : Fr w8 w14 (Own sb rb mb (its1.take j)) := F2.trans hf (fun k hk' => by
    simp only [List.map_cons, List.mem_cons] at hk'
    rcases hk' with h | h | h
    · exact Or.inl (Or.inr (Or.inr (by simp [h])))
    · exact Or.inr (by rw [h]; exact hbx)
    · exact Or.inl (Or.inr (Or.inr (List.mem_cons_of_mem _ h))))
  have F4 : Fr w8 (w14.setCell ⟨sb, 1, none⟩ (.int .i64 v)) (Own sb rb mb (its1.take j)) := F3.set (Or.inl (Or.inl rfl)) _
  have ks : Kept w14 (w14.setCell ⟨sb, 1, none⟩ (.int .i64 v)) (fun k => k = sb) := (Kept.refl w14 (fun k => k = sb)).setCell (p := ⟨sb, 1, none⟩) (Or.inl rfl) _
  have hm14 : Mp w14 mb (⟨key, value, bx⟩ :: its1.take j) := hm.kept hf.kept hmb
  have hne : mb ≠ sb := (mb_ne hm14 hs).symm
  refine ⟨⟨?_, hr.keep ks (fun k hk' e => hsr k hk' e.symm), hm14.kept ks hne, ?_, ?_, ?_, hR.sto.lo, hR.sto.hi⟩, ?_, own_kept hR.row F4.kept (fun k hk' => not_own hlt2 hk')⟩
  · have e : tot (⟨key, value, bx⟩ :: its1.take j) = v := by rw [hv]; simp only [tot]; omega
    rw [e]
    exact blk_put hs 1 _ rfl
  · refine List.nodup_cons.2 ⟨fun h => ?_, hR.sto.keys⟩
    obtain ⟨x, hx, e⟩ := List.mem_map.1 h
    exact hno x (List.mem_of_mem_take hx) e
  · intro x hx
    rcases List.mem_cons.1 hx with rfl | hx
    · exact hk
    · exact hR.sto.one x hx
  · simp only [tot]; omega
  · exact hR.fr.trans F4 (fun k hk' => Or.inl (hsub k (Own.take hk')))

set_option maxHeartbeats 4000000 in
theorem put_ok (w : World) (sb rb mb : Nat) (room : Int) (its : List It) (key value : ByteArray) (h : Sto w sb rb mb room its) (hk : key.size = 1) (hfit : (key.size : Int) + (value.size : Int) ≤ room) :
    Calls Try.prog 10 #[.pointer (some ⟨sb, 0, none⟩), .string key, .string value] w fun e w' => ∃ (A : Option Addr) (c bx N : Nat) (its1 : List It) (gs : List ByteArray), e = .returned (.tuple #[.slice A gs.length c, .int .i64 0]) ∧ its1 = its.filter (fun x => decide (x.k ≠ key)) ∧
      N = fitN (room - ((key.size : Int) + (value.size : Int))) (szs its1) ∧ gs = ((its1.drop N).map It.k).reverse ∧ w'.ownsRow w.heap.size 9 1 (.slice A gs.length c) gs.length (encs Value.string gs) ∧ Sto w' sb rb mb room (⟨key, value, bx⟩ :: its1.take N) ∧ w.heap.size ≤ bx ∧ Fr w w' (Own sb rb mb its) := by
  obtain ⟨s0, -, -, s3, -⟩ := sob_cells h.hs
  have hhi := h.hi
  have hw1 := wrap_id (n := (key.size : Int) + (value.size : Int)) (by omega) (by omega)
  have hd : decide (room < (key.size : Int) + (value.size : Int)) = false := decide_eq_false (by omega)
  have hkm : key.size ≤ maxLen := by rw [hk]; decide
  have H := Go.Lib.hid h
  have HK := Go.Lib.hid hk
  have HFIT := Go.Lib.hid hfit
  have HHI := Go.Lib.hid hhi
  have hcase : (∀ x ∈ its, x.k ≠ key) ∨ ∃ p x q, its = p ++ x :: q ∧ x.k = key := by
    by_cases hex : ∃ x ∈ its, x.k = key
    · obtain ⟨x, hx, e⟩ := hex
      obtain ⟨p, q, e2⟩ := List.append_of_mem hx
      exact Or.inr ⟨p, x, q, e2, e⟩
    · exact Or.inl (fun x hx e => hex ⟨x, hx, e⟩)
  clear hk hfit hhi
  rcases hcase with hno | ⟨p, x, q, hits, hkey⟩
  focus
    have hl := look_none h.hm hkm hno
    have hP : Pre w w its its key sb rb mb room := ⟨h, Fr.refl _ _, (filter_none hno).symm, hno, h.own_lt, fun _ h => h⟩
    obtain ⟨its1, hi1⟩ : ∃ its1, its1 = its := ⟨_, rfl⟩
    have HP := Go.Lib.hid (show Pre w w its its1 key sb rb mb room by rw [hi1]; exact hP)
    clear h hno hi1 hP
    go_enter Try.func10, Try.ntmps10
    go_upto_region 6 with fail
    obtain ⟨w1, hw1'⟩ : ∃ w1, w1 = w := ⟨_, rfl⟩
    have HP := Go.Lib.hid (show Pre w w1 its its1 key sb rb mb room by rw [hw1']; exact HP.out)
    clear hl s0 s3 hw1 hd
    rw [← hw1']
    have HW1 := Go.Lib.hid hw1'
    clear hw1'
    have HKM := Go.Lib.hid hkm
    clear hkm
  rotate_left
  focus
    have H2 := Go.Lib.hid (show Sto w sb rb mb room (p ++ x :: q) by rw [← hits]; exact h)
    have hl := look_some H2.out.hm (by rw [hkey]; exact hkm) H2.out.keys
    rw [hkey] at hl
    have HITS := Go.Lib.hid (filter_some H2.out.keys).symm
    obtain ⟨its1, hi1⟩ : ∃ its1, its1 = p ++ q := ⟨_, rfl⟩
    have HI1 := Go.Lib.hid hi1
    have HIT := Go.Lib.hid hits
    have HKEY := Go.Lib.hid hkey
    clear hi1 h hits hkey
    go_enter Try.func10, Try.ntmps10
    go_upto_region 5 with fail
    go_upto_region 6 with fail
    refine (drop_calls w sb rb mb room p q x H2.out).mono ?_
    rintro e w1 ⟨rfl, hsto, hfr⟩
    have HP := Go.Lib.hid (show Pre w w1 its its1 key sb rb mb room by rw [HI1.out, HIT.out, ← HKEY.out]; exact Pre.drop H2.out hsto hfr HITS.out)
    clear hl s0 s3 hw1 hd hsto hfr
    go_upto_region 6 with fail
    have HKM := Go.Lib.hid hkm
    clear hkm
  all_goals
    go_wp2_with fail
    go_loopg [9] (its1.length + 1) (fun gk v9 w' => ∃ (j : Nat) (gs : List ByteArray), Hid (LoopR w its its1 key value sb rb mb room gk j gs v9 w'))
    case atStart => exact ⟨its1.length, [], Go.Lib.hid ⟨rfl, by have := fitN_le (room - ((key.size : Int) + (value.size : Int))) (szs its1); simpa [szs] using this, Nat.le_refl _, by simp, by rw [List.take_length]; exact HP.out.sto, HP.out.fr, own_nil _ _ _ _⟩⟩
    case round =>
      obtain ⟨j, gs, hR⟩ := hrel
      obtain ⟨A, c, rfl⟩ := own_slice hR.out.row
      obtain ⟨s0, s1, s2, -, -⟩ := sob_cells hR.out.sto.hs
      obtain ⟨u, hu⟩ : ∃ u, u = tot (its1.take j) := ⟨_, rfl⟩
      rw [← hu] at s1
      have hu0 : 0 ≤ u := by rw [hu]; exact tot_nonneg _
      have hu1 : u ≤ 16777216 := by rw [hu]; exact Int.le_trans hR.out.sto.le hR.out.sto.hi
      have hf := HFIT.out
      have hh := HHI.out
      have q1 := wrap_id (n := u + (key.size : Int)) (by omega) (by omega)
      have q2 := wrap_id (n := u + (key.size : Int) + (value.size : Int)) (by omega) (by omega)
      have HU := Go.Lib.hid hu
      clear hu hu0 hu1 hf hh
      by_cases hover : room < u + (key.size : Int) + (value.size : Int)
      · have hd := decide_eq_true hover
        have HOV := Go.Lib.hid (show room < tot (its1.take j) + (key.size : Int) + (value.size : Int) by rw [← HU.out]; exact hover)
        clear hover
        cases j with
        | zero =>
          exfalso
          have h1 := HOV.out
          have h2 := HFIT.out
          simp [tot] at h1
          omega
        | succ j =>
          have hj : j < its1.length := hR.out.hi
          obtain ⟨y, hy⟩ : ∃ y, its1.take (j + 1) = its1.take j ++ [y] := ⟨_, List.take_succ_eq_append_getElem hj⟩
          have HY := Go.Lib.hid hy
          have hst := hR.out.sto
          rw [hy] at hst
          obtain ⟨r2, y0⟩ := hst.last
          have HL := Go.Lib.hid (show gs.length ≤ 16777216 by have h1 := hR.out.keys; have h2 := HP.out.sto.len; rw [h1]; simp; omega)
          clear hst hy hj
          go_wp2_with fail
          go_quiet (fail)
          obtain ⟨w8, hw8⟩ : ∃ w8, w8 = wr.drewN nq := ⟨_, rfl⟩
          rw [← hw8]
          have hR8 := Go.Lib.hid (show LoopR w its its1 key value sb rb mb room gk (j + 1) gs (.slice A gs.length c) w8 by rw [hw8]; exact ⟨hR.out.rounds, hR.out.lo, hR.out.hi, hR.out.keys, hR.out.sto.fr ((Kept.refl wr (fun _ => False)).drewN nq) (fun _ _ h => h), hR.out.fr.drewN nq, pw_own_drewN hR.out.row nq⟩)
          clear s0 s1 s2 r2 y0 hw8 q1 q2 hd hR
          have hst := hR8.out.sto
          rw [HY.out] at hst
          obtain ⟨-, -, s2, -, -⟩ := sob_cells hst.hs
          obtain ⟨r2, y0⟩ := hst.last
          clear hst
          go_wp2_with ((with_reducible refine gate_builtin (b := .append) (xs := #[.tmp 55, .tmp 60]) rfl ?_); at_builtin; refine print_append_of (w0 := w8) Value.string w.heap.size rfl (.tmp 55) (.tmp 60) 22 9 (.string ⟨#[]⟩) 16 rfl Try.underlying22 info9 rfl (by decide) (.slice A gs.length c) gs y.k rfl (by first | rfl | (go_simp; done) | (go_simp; rfl)) rfl ?q1 ?q2 ?q3 ?q4 ?_; (case q1 => exact hR8.out.row); (case q2 => exact Below.refl _ _); (case q3 => exact hR8.out.fr.kept.1); (case q4 => have q1_ := HL.out; omega); intro v1 w9 ho9 hb9 hg9 hat9; obtain ⟨A9, c9, rfl⟩ := own_slice ho9; have HO9 := Go.Lib.hid ho9; have HB9 := Go.Lib.hid hb9; clear ho9 hb9 hg9 hat9 s2 r2 y0)
          have hst := hR8.out.sto.below HB9.out (fun k hk => HP.out.lt k (Own.take hk))
          rw [HY.out] at hst
          refine (drop_calls w9 sb rb mb room (its1.take j) [] y hst).mono ?_
          rintro e w10 ⟨rfl, hs10, hf10⟩
          have HR10 := Go.Lib.hid (LoopR.step HP.out.lt HP.out.sub hR8.out HY.out HOV.out HB9.out HO9.out hs10 hf10 HFIT.out)
          clear hst hs10 hf10
          go_wp2_with fail
          go_roundg (j + 1)
          case measure => have := hR8.out.rounds; omega
          case rel => exact ⟨j, gs ++ [y.k], by have e : (gs ++ [y.k]).length = gs.length + 1 := by simp
                                                rw [← e]; exact HR10⟩
      · have hd := decide_eq_false hover
        have HN := Go.Lib.hid (hR.out.stop (by rw [← HU.out]; exact hover))
        have HOV := Go.Lib.hid (show ¬ room < tot (its1.take j) + (key.size : Int) + (value.size : Int) by rw [← HU.out]; exact hover)
        clear hover
        go_wp2_with fail
        go_quiet (fail)
        obtain ⟨w8, hw8⟩ : ∃ w8, w8 = wr.drewN nq := ⟨_, rfl⟩
        rw [← hw8]
        have hR8 := Go.Lib.hid (show LoopR w its its1 key value sb rb mb room gk j gs (.slice A gs.length c) w8 by rw [hw8]; exact ⟨hR.out.rounds, hR.out.lo, hR.out.hi, hR.out.keys, hR.out.sto.fr ((Kept.refl wr (fun _ => False)).drewN nq) (fun _ _ h => h), hR.out.fr.drewN nq, pw_own_drewN hR.out.row nq⟩)
        clear s0 s1 s2 hw8 q1 q2 hd hR
        go_wp2_with fail
        refine (clone_calls key w8 (by rw [HK.out]; decide)).mono ?_
        rintro e w9 ⟨rfl, hb9⟩
        have HB9 := Go.Lib.hid hb9
        clear hb9
        go_wp2_with fail
        refine (clone_calls value w9 (by have h1 := HFIT.out; have h2 := HHI.out; omega)).mono ?_
        rintro e w10 ⟨rfl, hb10⟩
        have HB10 := Go.Lib.hid (HB9.out.trans (hb10.mono HB9.out.size))
        clear hb10
        go_upto_region 12 with fail
        obtain ⟨bx, hbx⟩ : ∃ bx, bx = w10.heap.size := ⟨_, rfl⟩
        obtain ⟨w11, hw11⟩ : ∃ w11, w11 = w10.alloc (obv key value (.pointer none) (.pointer none)) := ⟨_, rfl⟩
        have hx11 : w11.heap[bx]? = some (obv key value (.pointer none) (.pointer none)) := by rw [hw11, hbx]; exact blk_new _ _
        have HB11 := Go.Lib.hid (show Below w8.heap.size w8 w11 by rw [hw11]; exact HB10.out.alloc HB10.out.size _)
        have HBX := Go.Lib.hid (show w8.heap.size ≤ bx by rw [hbx]; exact HB10.out.size)
        rw [← hbx]
        change Code.wp _ _ _ _ (w10.alloc (obv key value (.pointer none) (.pointer none)))
        rw [← hw11]
        have HLT := Go.Lib.hid (show ∀ k, Own sb rb mb (its1.take j) k → k < w8.heap.size from fun k hk' => Nat.lt_of_lt_of_le (HP.out.lt k (Own.take hk')) hR8.out.fr.kept.1)
        have hst := hR8.out.sto.below HB11.out HLT.out
        have HX11 := Go.Lib.hid hx11
        have HST := Go.Lib.hid hst
        have x0 : w11.cell? ⟨bx, 0, none⟩ = some (.string key) := (blk_cell hx11 0).trans rfl
        obtain ⟨-, -, -, s3, -⟩ := sob_cells hst.hs
        clear hx11 hst hw11 hbx HB10
        go_still_tail 9, (by kernel_rfl)
        change wpList _ _ _ _ _ w11.drew
        obtain ⟨w12, hw12⟩ : ∃ w12, w12 = w11.drew := ⟨_, rfl⟩
        rw [← hw12]
        have HM12 := Go.Lib.hid (show Mp w12 mb (its1.take j) by rw [hw12]; exact HST.out.hm)
        have HW12 := Go.Lib.hid hw12
        have HNO := Go.Lib.hid (show ∀ x ∈ its1.take j, x.k ≠ key from fun x hx => HP.out.no x (List.mem_of_mem_take hx))
        have HLEN := Go.Lib.hid (show (its1.take j).length < maxLen from Nat.lt_of_le_of_lt HST.out.len (by decide))
        clear hw12 x0 s3
        go_wp2_with (first | (at_mapUpdate; refine wp_update value rfl _ _ _ rfl rfl rfl rfl HM12.out HKM.out HNO.out HLEN.out ?_; intro w13 hm13 ht13; have HM13 := Go.Lib.hid hm13; have HT13 := Go.Lib.hid ht13; clear hm13 ht13) | fail)
        have hs13 : w13.heap[sb]? = some (sob room (tot (its1.take j)) rb mb) := turned_blk HT13.out (by rw [HW12.out]; exact HST.out.hs) (mb_ne HM12.out (by rw [HW12.out]; exact HST.out.hs))
        have hx13 : w13.heap[bx]? = some (obv key value (.pointer none) (.pointer none)) := turned_blk HT13.out (by rw [HW12.out]; exact HX11.out) (mb_ne HM12.out (by rw [HW12.out]; exact HX11.out))
        have hr13 : Ring w13 rb (its1.take j) := HST.out.hr.keep (S := fun k => k = mb) (by have := Kept.of_grown (w := w11) (S := fun k => k = mb) HT13.out.grown (by rw [HW12.out]; exact (Kept.refl w11 _).drewN 1) (fun k hk' => Or.inl (by cases hk'; rfl)); exact this) (fun k hk' e => ring_mb HST.out.hm HST.out.hr k hk' e.symm)
        have hbn : bx ∉ rb :: (its1.take j).map It.b := fun hn => by
          have h1 := HLT.out bx (Or.inr (Or.inr hn))
          have h2 := HBX.out
          omega
        refine (front_calls w13 sb rb mb room _ (its1.take j) ⟨key, value, bx⟩ _ _ hs13 hr13 hx13 hbn).mono ?_
        rintro e w14 ⟨rfl, hr14, hf14⟩
        have hmb : ¬ mb ∈ rb :: (⟨key, value, bx⟩ :: its1.take j : List It).map It.b := fun h => by
          simp only [List.map_cons, List.mem_cons] at h
          rcases h with h | h | h
          · exact ring_mb HM13.out hr13 _ (by simp) h
          · exact mb_ne HM13.out hx13 h.symm
          · exact ring_mb HM13.out hr13 _ (List.mem_cons_of_mem _ h) rfl
        have hs14 : w14.heap[sb]? = some (sob room (tot (its1.take j)) rb mb) := blk_kept hs13 hf14.kept (fun h => by
          simp only [List.map_cons, List.mem_cons] at h
          rcases h with h | h | h
          · exact ring_sb hs13 hr13 _ (by simp) h
          · exact (blk_ne hs13 hx13 (by decide)) h
          · exact ring_sb hs13 hr13 _ (List.mem_cons_of_mem _ h) rfl)
        obtain ⟨u3, hu3⟩ : ∃ u3, u3 = u + ((key.size : Int) + (value.size : Int)) := ⟨_, rfl⟩
        have hov : ¬ room < tot (its1.take j) + (key.size : Int) + (value.size : Int) := (by have := HOV.out; omega)
        have POST := Go.Lib.hid (put_last (v := u3) HP.out.lt HP.out.sub HP.out.no hR8.out HK.out hov HB11.out HBX.out (by rw [← HW12.out]; exact HT13.out) HM13.out hs14 hr14 hf14 hmb (by rw [hu3, HU.out]))
        have hs15 := hs14
        rw [← HU.out] at hs15
        obtain ⟨-, s1, -, -, f1⟩ := sob_cells hs15
        have hu0 : 0 ≤ u := by rw [HU.out]; exact tot_nonneg _
        have hu1 : u ≤ 16777216 := by rw [HU.out]; exact Int.le_trans hR8.out.sto.le hR8.out.sto.hi
        have hf := HFIT.out
        have hh := HHI.out
        have q1 := wrap_id (n := (key.size : Int) + (value.size : Int)) (by omega) (by omega)
        have q2 : IntKind.i64.wrap (u + ((key.size : Int) + (value.size : Int))) = u3 := by rw [hu3]; exact wrap_id (by omega) (by omega)
        have HGB := Go.Lib.hid (show w.heap.size ≤ bx from Nat.le_trans hR8.out.fr.kept.1 HBX.out)
        clear hs13 hx13 hr13 hbn hr14 hf14 hmb hs14 hov hs15 hu0 hu1 hf hh hu3
        go_wp2_with fail
        go_ret2
        exact ⟨A, c, bx, j, its1, gs, rfl, HP.out.eq, HN.out, hR8.out.keys, POST.out.2.2, POST.out.1, HGB.out, POST.out.2.1⟩
end Go.Proofs.Ytijjebogbjaeiaa.St
