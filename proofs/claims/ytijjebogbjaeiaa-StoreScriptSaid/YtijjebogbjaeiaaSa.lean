import Derived.Test.YtijjebogbjaeiaaPStoreScriptx0
import Derived.Maps.OwnSet
import Derived.StillTailTactics
import Derived.Lib.Hide
namespace Go.Proofs.Ytijjebogbjaeiaa.St
open Go.RowKit Go.Proofs.Ytijjebogbjaeiaa.PStoreScript Go.Proofs.YtijjebogbjaeiaaW.PrintWords Go.Proofs.YtijjebogbjaeiaaW.PrintLast Go.Proofs.YtijjebogbjaeiaaW.PrintMore
set_option linter.unusedVariables false
set_option linter.unusedSimpArgs false

/-! ### the ring, on lists -/
def up (f : Nat → Nat) (a v : Nat) : Nat → Nat := fun x => if x = a then v else f x
theorem up_at (f : Nat → Nat) (a v : Nat) : up f a v a = v := if_pos rfl
theorem up_ne {f : Nat → Nat} {a v x : Nat} (h : x ≠ a) : up f a v x = f x := if_neg h

/-- The items of r stand between a and z: O leads on, L leads back. -/
def Lnk (L O : Nat → Nat) : Nat → List Nat → Nat → Prop
  | a, [], z => O a = z ∧ L z = a
  | a, b :: r, z => O a = b ∧ L b = a ∧ Lnk L O b r z

theorem lnk_congr {L O L' O' : Nat → Nat} : ∀ (r : List Nat) (a z : Nat), (∀ x ∈ a :: r, O' x = O x) → (∀ x ∈ r ++ [z], L' x = L x) → Lnk L O a r z → Lnk L' O' a r z
  | [], a, z, ho, hl, h => ⟨(ho a (by simp)).trans h.1, (hl z (by simp)).trans h.2⟩
  | b :: r, a, z, ho, hl, h => ⟨(ho a (by simp)).trans h.1, (hl b (by simp)).trans h.2.1, lnk_congr r b z (fun x hx => ho x (List.mem_cons_of_mem _ hx)) (fun x hx => hl x (List.mem_cons_of_mem _ hx)) h.2.2⟩

theorem lnk_append {L O : Nat → Nat} : ∀ (p : List Nat) (a b : Nat) (q : List Nat) (z : Nat), Lnk L O a (p ++ b :: q) z → Lnk L O a p b ∧ Lnk L O b q z
  | [], a, b, q, z, h => ⟨⟨h.1, h.2.1⟩, h.2.2⟩
  | c :: p, a, b, q, z, h => by
    obtain ⟨h1, h2, h3⟩ := h
    obtain ⟨k1, k2⟩ := lnk_append p c b q z h3
    exact ⟨⟨h1, h2, k1⟩, k2⟩

theorem lnk_first {L O : Nat → Nat} {a z : Nat} {r : List Nat} (h : Lnk L O a r z) : O a ∈ r ++ [z] ∧ (∀ b r', r = b :: r' → O a = b) ∧ (r = [] → O a = z) := by
  cases r with
  | nil => exact ⟨by rw [h.1]; simp, (fun _ _ e => nomatch e), fun _ => h.1⟩
  | cons b r => exact ⟨by rw [h.1]; simp, (fun _ _ e => by cases e; exact h.1), fun e => nomatch e⟩
theorem lnk_last {L O : Nat → Nat} : ∀ (r : List Nat) (a z : Nat), Lnk L O a r z → L z ∈ a :: r
  | [], a, z, h => by rw [h.2]; simp
  | b :: r, a, z, h => List.mem_cons_of_mem _ (lnk_last r b z h.2.2)

/-- b is taken out. -/
theorem lnk_join {L O : Nat → Nat} : ∀ (p : List Nat) (a b : Nat) (q : List Nat) (z : Nat), Lnk L O a p b → Lnk L O b q z → (a :: p ++ q).Nodup → (p ++ q ++ [z]).Nodup → Lnk (up L (O b) (L b)) (up O (L b) (O b)) a (p ++ q) z
  | [], a, b, q, z, h, k, n1, n2 => by
    rw [h.2]
    cases q with
    | nil => rw [k.1]; exact ⟨up_at _ _ _, up_at _ _ _⟩
    | cons c q =>
      rw [k.1]
      refine ⟨up_at _ _ _, up_at _ _ _, lnk_congr q c z (fun x hx => up_ne ?_) (fun x hx => up_ne ?_) k.2.2⟩
      · rintro rfl
        simp at n1 hx
        rcases hx with rfl | hx
        · exact n1.1.1 rfl
        · exact n1.1.2 hx
      · rintro rfl
        simp at n2 hx
        rcases hx with hx | rfl
        · exact n2.1.1 hx
        · exact n2.1.2 rfl
  | c :: p, a, b, q, z, h, k, n1, n2 => by
    have hP := lnk_last p c b h.2.2
    have hQ := (lnk_first k).1
    refine ⟨(up_ne ?_).trans h.1, (up_ne ?_).trans h.2.1, lnk_join p c b q z h.2.2 k ?_ ?_⟩
    · intro e
      rw [e] at n1
      have := (List.nodup_cons.1 n1).1
      exact this (by
        rcases List.mem_cons.1 hP with e1 | hP
        · rw [e1]; simp
        · simp [hP])
    · intro e
      have n3 := (List.nodup_cons.1 n2).1
      rw [e] at n3
      exact n3 (by
        rcases List.mem_append.1 hQ with h1 | h1
        · simp [h1]
        · simp at h1; simp [h1])
    · exact (List.nodup_cons.1 n1).2
    · exact (List.nodup_cons.1 n2).2

/-- x is laid ahead. -/
theorem lnk_front {L O : Nat → Nat} {rb x : Nat} {bs : List Nat} (h : Lnk L O rb bs rb) (hx : x ≠ rb) (hxb : x ∉ bs) (hr : rb ∉ bs) (hn : bs.Nodup) : Lnk (up (up L x rb) (O rb) x) (up (up O x (O rb)) rb x) rb (x :: bs) rb := by
  have hF := lnk_first h
  refine ⟨up_at _ _ _, ?_, ?_⟩
  · refine (up_ne ?_).trans (up_at _ _ _)
    intro e
    rcases List.mem_append.1 hF.1 with h1 | h1
    · exact hxb (e ▸ h1)
    · simp at h1; exact hx (e.trans h1)
  · cases bs with
    | nil =>
      rw [h.1]
      exact ⟨(up_ne hx).trans (up_at _ _ _), up_at _ _ _⟩
    | cons c r =>
      rw [h.1]
      simp at hxb hr hn
      refine ⟨(up_ne hx).trans (up_at _ _ _), up_at _ _ _, lnk_congr r c rb (fun y hy => ?_) (fun y hy => ?_) h.2.2⟩
      · have h1 : y ≠ rb := by
          rintro rfl
          rcases List.mem_cons.1 hy with e | e
          · exact hr.1 e
          · exact hr.2 e
        have h2 : y ≠ x := by
          rintro rfl
          rcases List.mem_cons.1 hy with e | e
          · exact hxb.1 e
          · exact hxb.2 e
        rw [up_ne h1, up_ne h2]
      · have h1 : y ≠ c := by
          rintro rfl
          rcases List.mem_append.1 hy with e | e
          · exact hn.1 e
          · simp at e; exact hr.1 e.symm
        have h2 : y ≠ x := by
          rintro rfl
          rcases List.mem_append.1 hy with e | e
          · exact hxb.2 e
          · simp at e; exact hx e
        rw [up_ne h1, up_ne h2]

/-! ### the ring, on the heap -/
def ob (k v : ByteArray) (l o : Nat) : Obj := .cells #[.string k, .string v, .pointer (some ⟨l, 0, none⟩), .pointer (some ⟨o, 0, none⟩)] 49 (0, 0)
/-- An item with whatever links. -/
def obv (k v : ByteArray) (a b : Value) : Obj := .cells #[.string k, .string v, a, b] 49 (0, 0)
structure It where
  (k v : ByteArray) (b : Nat)

theorem ob_setO {w : World} {n p q : Nat} {k v : ByteArray} {l o : Nat} (h : w.heap[n]? = some (ob k v l o)) : (w.setCell ⟨p, 3, none⟩ (.pointer (some ⟨q, 0, none⟩))).heap[n]? = some (ob k v l (if n = p then q else o)) := by
  by_cases e : n = p
  · subst e
    rw [if_pos rfl]
    exact blk_put h 3 _ rfl
  · rw [if_neg e]
    exact blk_far h e _
theorem ob_setL {w : World} {n p q : Nat} {k v : ByteArray} {l o : Nat} (h : w.heap[n]? = some (ob k v l o)) : (w.setCell ⟨p, 2, none⟩ (.pointer (some ⟨q, 0, none⟩))).heap[n]? = some (ob k v (if n = p then q else l) o) := by
  by_cases e : n = p
  · subst e
    rw [if_pos rfl]
    exact blk_put h 2 _ rfl
  · rw [if_neg e]
    exact blk_far h e _

/-- The ring of the items, the most recent first, on the heap. -/
def Ring (w : World) (rb : Nat) (its : List It) : Prop :=
  ∃ L O, Lnk L O rb (its.map It.b) rb ∧ (rb :: its.map It.b).Nodup ∧ w.heap[rb]? = some (ob ⟨#[]⟩ ⟨#[]⟩ (L rb) (O rb)) ∧ ∀ x ∈ its, w.heap[x.b]? = some (ob x.k x.v (L x.b) (O x.b))

/-- What a call leaves: all blocks outside of S. -/
structure Fr (w w' : World) (S : Nat → Prop) : Prop where
  os : w'.os = w.os
  tape : w'.tape = w.tape
  output : w'.output = w.output
  kept : Kept w w' S

theorem Fr.refl (w : World) (S : Nat → Prop) : Fr w w S := ⟨rfl, rfl, rfl, Kept.refl _ _⟩
theorem Fr.mono {w w' : World} {S T : Nat → Prop} (h : Fr w w' S) (hs : ∀ k, S k → T k) : Fr w w' T := ⟨h.os, h.tape, h.output, h.kept.mono hs⟩
theorem Fr.trans {w w1 w2 : World} {S T : Nat → Prop} (h : Fr w w1 S) (k : Fr w1 w2 T) (hs : ∀ k, T k → S k ∨ w.heap.size ≤ k) : Fr w w2 S := ⟨k.os.trans h.os, k.tape.trans h.tape, k.output.trans h.output, h.kept.then_ k.kept hs⟩
theorem Fr.set {w w1 : World} {S : Nat → Prop} (h : Fr w w1 S) {p : Addr} (hp : S p.block ∨ w.heap.size ≤ p.block) (u : Value) : Fr w (w1.setCell p u) S := ⟨h.os, h.tape, h.output, h.kept.setCell hp u⟩
theorem Fr.drewN {w w1 : World} {S : Nat → Prop} (h : Fr w w1 S) (n : Nat) : Fr w (w1.drewN n) S :=
  ⟨(pw_below_drewN (Below.refl w1.heap.size w1) n).os.trans h.os, (pw_below_drewN (Below.refl w1.heap.size w1) n).tape.trans h.tape, (pw_below_drewN (Below.refl w1.heap.size w1) n).output.trans h.output, h.kept.drewN n⟩

theorem Ring.lt {w : World} {rb : Nat} {its : List It} (h : Ring w rb its) : ∀ k ∈ rb :: its.map It.b, k < w.heap.size := by
  obtain ⟨L, O, _, _, hr, hi⟩ := h
  intro k hk
  rcases List.mem_cons.1 hk with rfl | hk
  · exact blk_lt hr
  · obtain ⟨x, hx, rfl⟩ := List.mem_map.1 hk
    exact blk_lt (hi x hx)

/-- Blocks of the ring, by their number. -/
theorem Ring.node {w : World} {rb : Nat} {its : List It} {L O : Nat → Nat} (hr : w.heap[rb]? = some (ob ⟨#[]⟩ ⟨#[]⟩ (L rb) (O rb))) (hi : ∀ x ∈ its, w.heap[x.b]? = some (ob x.k x.v (L x.b) (O x.b))) {n : Nat} (hn : n ∈ rb :: its.map It.b) :
    ∃ k v, w.heap[n]? = some (ob k v (L n) (O n)) := by
  rcases List.mem_cons.1 hn with rfl | hn
  · exact ⟨_, _, hr⟩
  · obtain ⟨x, hx, rfl⟩ := List.mem_map.1 hn
    exact ⟨_, _, hi x hx⟩

theorem Ring.keep {w w' : World} {rb : Nat} {its : List It} {S : Nat → Prop} (h : Ring w rb its) (hk : Kept w w' S) (hs : ∀ k ∈ rb :: its.map It.b, ¬ S k) : Ring w' rb its := by
  obtain ⟨L, O, h1, h2, hr, hi⟩ := h
  exact ⟨L, O, h1, h2, blk_kept hr hk (hs _ (by simp)), fun x hx => blk_kept (hi x hx) hk (hs _ (List.mem_cons_of_mem _ (List.mem_map.2 ⟨x, hx, rfl⟩)))⟩

/-- 'out' turns the ring. -/
theorem Ring.out {w : World} {rb : Nat} {p q : List It} {x : It} {L O : Nat → Nat} (h1 : Lnk L O rb ((p ++ x :: q).map It.b) rb) (h2 : (rb :: (p ++ x :: q).map It.b).Nodup)
    (hr : w.heap[rb]? = some (ob ⟨#[]⟩ ⟨#[]⟩ (L rb) (O rb))) (hi : ∀ y ∈ p ++ x :: q, w.heap[y.b]? = some (ob y.k y.v (L y.b) (O y.b))) :
    Ring ((w.setCell ⟨L x.b, 3, none⟩ (.pointer (some ⟨O x.b, 0, none⟩))).setCell ⟨O x.b, 2, none⟩ (.pointer (some ⟨L x.b, 0, none⟩))) rb (p ++ q) := by
  have e : (p ++ x :: q).map It.b = p.map It.b ++ x.b :: q.map It.b := by simp
  rw [e] at h1 h2
  obtain ⟨k1, k2⟩ := lnk_append _ _ _ _ _ h1
  have n1 : (rb :: p.map It.b ++ q.map It.b).Nodup := h2.sublist (by simp)
  have n2 : (p.map It.b ++ q.map It.b ++ [rb]).Nodup := ((List.perm_append_singleton rb (p.map It.b ++ q.map It.b)).nodup_iff).2 (by simpa using n1)
  have set : ∀ n k v, w.heap[n]? = some (ob k v (L n) (O n)) → ((w.setCell ⟨L x.b, 3, none⟩ (.pointer (some ⟨O x.b, 0, none⟩))).setCell ⟨O x.b, 2, none⟩ (.pointer (some ⟨L x.b, 0, none⟩))).heap[n]? = some (ob k v (up L (O x.b) (L x.b) n) (up O (L x.b) (O x.b) n)) := by
    intro n k v h
    exact ob_setL (ob_setO h)
  refine ⟨up L (O x.b) (L x.b), up O (L x.b) (O x.b), ?_, ?_, set _ _ _ hr, fun y hy => set _ _ _ (hi y ?_)⟩
  · rw [List.map_append]
    exact lnk_join _ _ _ _ _ k1 k2 n1 n2
  · rw [List.map_append]
    exact n1
  · rcases List.mem_append.1 hy with h | h
    · exact List.mem_append_left _ h
    · exact List.mem_append_right _ (List.mem_cons_of_mem _ h)

/-- 'front' turns the ring. -/
theorem Ring.front {w : World} {rb : Nat} {its : List It} {x : It} {L O : Nat → Nat} {va vb : Value} (h1 : Lnk L O rb (its.map It.b) rb) (h2 : (rb :: its.map It.b).Nodup) (hx : x.b ∉ rb :: its.map It.b)
    (hr : w.heap[rb]? = some (ob ⟨#[]⟩ ⟨#[]⟩ (L rb) (O rb))) (hi : ∀ y ∈ its, w.heap[y.b]? = some (ob y.k y.v (L y.b) (O y.b))) (ho : w.heap[x.b]? = some (obv x.k x.v va vb)) :
    Ring ((((w.setCell ⟨x.b, 2, none⟩ (.pointer (some ⟨rb, 0, none⟩))).setCell ⟨x.b, 3, none⟩ (.pointer (some ⟨O rb, 0, none⟩))).setCell ⟨O rb, 2, none⟩ (.pointer (some ⟨x.b, 0, none⟩))).setCell ⟨rb, 3, none⟩ (.pointer (some ⟨x.b, 0, none⟩))) rb (x :: its) := by
  simp only [List.mem_cons, not_or] at hx
  have hF := (lnk_first h1).1
  have hxF : x.b ≠ O rb := by
    intro e
    rcases List.mem_append.1 hF with h | h
    · exact hx.2 (e ▸ h)
    · simp at h; exact hx.1 (e.trans h)
  have set : ∀ n k v, n ≠ x.b → w.heap[n]? = some (ob k v (L n) (O n)) → ((((w.setCell ⟨x.b, 2, none⟩ (.pointer (some ⟨rb, 0, none⟩))).setCell ⟨x.b, 3, none⟩ (.pointer (some ⟨O rb, 0, none⟩))).setCell ⟨O rb, 2, none⟩ (.pointer (some ⟨x.b, 0, none⟩))).setCell ⟨rb, 3, none⟩ (.pointer (some ⟨x.b, 0, none⟩))).heap[n]? = some (ob k v (up (up L x.b rb) (O rb) x.b n) (up (up O x.b (O rb)) rb x.b n)) := by
    intro n k v hn h
    have := ob_setO (p := rb) (q := x.b) (ob_setL (p := O rb) (q := x.b) (ob_setO (p := x.b) (q := O rb) (ob_setL (p := x.b) (q := rb) h)))
    exact this
  have hxx : ((((w.setCell ⟨x.b, 2, none⟩ (.pointer (some ⟨rb, 0, none⟩))).setCell ⟨x.b, 3, none⟩ (.pointer (some ⟨O rb, 0, none⟩))).setCell ⟨O rb, 2, none⟩ (.pointer (some ⟨x.b, 0, none⟩))).setCell ⟨rb, 3, none⟩ (.pointer (some ⟨x.b, 0, none⟩))).heap[x.b]? = some (ob x.k x.v (up (up L x.b rb) (O rb) x.b x.b) (up (up O x.b (O rb)) rb x.b x.b)) := by
    rw [up_ne hxF, up_at, up_ne hx.1, up_at]
    have a1 := blk_put ho 2 (.pointer (some ⟨rb, 0, none⟩)) (cs' := #[.string x.k, .string x.v, .pointer (some ⟨rb, 0, none⟩), vb]) rfl
    have a2 := blk_put a1 3 (.pointer (some ⟨O rb, 0, none⟩)) (cs' := #[.string x.k, .string x.v, .pointer (some ⟨rb, 0, none⟩), .pointer (some ⟨O rb, 0, none⟩)]) rfl
    exact blk_far (blk_far a2 (p := ⟨O rb, 2, none⟩) hxF _) (p := ⟨rb, 3, none⟩) hx.1 _
  refine ⟨up (up L x.b rb) (O rb) x.b, up (up O x.b (O rb)) rb x.b, lnk_front h1 hx.1 hx.2 (List.nodup_cons.1 h2).1 (List.nodup_cons.1 h2).2, ?_, set _ _ _ (fun e => hx.1 e.symm) hr, fun y hy => ?_⟩
  · show (rb :: x.b :: its.map It.b).Nodup
    refine List.nodup_cons.2 ⟨?_, List.nodup_cons.2 ⟨hx.2, (List.nodup_cons.1 h2).2⟩⟩
    simp only [List.mem_cons, not_or]
    exact ⟨fun e => hx.1 e.symm, (List.nodup_cons.1 h2).1⟩
  · rcases List.mem_cons.1 hy with rfl | hy
    · exact hxx
    · exact set _ _ _ (fun e => hx.2 (e ▸ List.mem_map.2 ⟨y, hy, rfl⟩)) (hi y hy)

end Go.Proofs.Ytijjebogbjaeiaa.St
