import Derived.Test.YtijjebogbjaeiaaSe
namespace Go.Proofs.Ytijjebogbjaeiaa.St
open Go.RowKit Go.Proofs.Ytijjebogbjaeiaa.PStoreScript Go.Proofs.YtijjebogbjaeiaaW.PrintWords Go.Proofs.YtijjebogbjaeiaaW.PrintLast Go.Proofs.YtijjebogbjaeiaaW.PrintMore
set_option linter.unusedVariables false
set_option linter.unusedSimpArgs false

theorem look_none {w : World} {mb : Nat} {its : List It} (h : Mp w mb its) {key : ByteArray} (hk : key.size ≤ maxLen) (hno : ∀ x ∈ its, x.k ≠ key) : (Instr.lookup 50 (.map (some mb)) (.string key) false).run Try.prog w = .ok (.pointer none) w := by
  rcases h.look hk with ⟨_, h⟩ | ⟨x, hx, e, _⟩
  · exact h
  · exact absurd e (hno x hx)
theorem look_some {w : World} {mb : Nat} {p q : List It} {x : It} (h : Mp w mb (p ++ x :: q)) (hk : x.k.size ≤ maxLen) (hn : ((p ++ x :: q).map It.k).Nodup) : (Instr.lookup 50 (.map (some mb)) (.string x.k) false).run Try.prog w = .ok (.pointer (some ⟨x.b, 0, none⟩)) w := by
  rcases h.look hk with ⟨hno, _⟩ | ⟨y, hy, e, h⟩
  · exact absurd rfl (hno x (by simp))
  · have : y = x := by
      rw [List.map_append, List.map_cons] at hn
      have h1 := (nodup_mid hn).1
      rw [← List.map_append] at h1
      simp only [List.mem_append, List.mem_cons] at hy
      rcases hy with hy | rfl | hy
      · exact absurd (List.mem_map.2 ⟨y, by simp [hy], e⟩) h1
      · rfl
      · exact absurd (List.mem_map.2 ⟨y, by simp [hy], e⟩) h1
    subst this; exact h

theorem Sto.fr {w w' : World} {sb rb mb : Nat} {room : Int} {its : List It} {S : Nat → Prop} (h : Sto w sb rb mb room its) (f : Kept w w' S) (hs : ∀ k, Own sb rb mb its k → ¬ S k) : Sto w' sb rb mb room its :=
  ⟨blk_kept h.hs f (hs _ (Or.inl rfl)), h.hr.keep f (fun k hk => hs k (Or.inr (Or.inr hk))), h.hm.kept f (hs _ (Or.inr (Or.inl rfl))), h.keys, h.one, h.le, h.lo, h.hi⟩
theorem Sto.own_lt {w : World} {sb rb mb : Nat} {room : Int} {its : List It} (h : Sto w sb rb mb room its) : ∀ k, Own sb rb mb its k → k < w.heap.size := by
  rintro k (rfl | rfl | hk)
  · exact blk_lt h.hs
  · exact h.hm.lt
  · exact h.hr.lt k hk

set_option maxHeartbeats 1000000 in
theorem used_calls (w : World) (sb rb mb : Nat) (room : Int) (its : List It) (h : Sto w sb rb mb room its) :
    Calls Try.prog 5 #[.pointer (some ⟨sb, 0, none⟩)] w fun e w' => e = .returned (.int .i64 (tot its)) ∧ w' = w := by
  obtain ⟨-, s1, -, -, -⟩ := sob_cells h.hs
  clear h
  go_enter Try.func5, Try.ntmps5
  go_wp2
  go_ret
  exact ⟨rfl, rfl⟩

set_option maxHeartbeats 1000000 in
theorem get_none (w : World) (sb rb mb : Nat) (room : Int) (its : List It) (key : ByteArray) (h : Sto w sb rb mb room its) (hk : key.size ≤ maxLen) (hno : ∀ x ∈ its, x.k ≠ key) :
    Calls Try.prog 7 #[.pointer (some ⟨sb, 0, none⟩), .string key] w fun e w' => e = .returned (.tuple #[.string ⟨#[]⟩, .int .i64 12]) ∧ Sto w' sb rb mb room its ∧ Fr w w' (Own sb rb mb its) := by
  obtain ⟨-, -, -, s3, -⟩ := sob_cells h.hs
  have hl := look_none h.hm hk hno
  have H := Go.Lib.hid h
  clear h hk hno
  go_enter Try.func7, Try.ntmps7
  go_wp2
  go_ret2
  exact ⟨rfl, H.out, Fr.refl _ _⟩

set_option maxHeartbeats 1000000 in
theorem drop_none (w : World) (sb rb mb : Nat) (room : Int) (its : List It) (key : ByteArray) (h : Sto w sb rb mb room its) (hk : key.size ≤ maxLen) (hno : ∀ x ∈ its, x.k ≠ key) :
    Calls Try.prog 6 #[.pointer (some ⟨sb, 0, none⟩), .string key] w fun e w' => e = .returned (.int .i64 12) ∧ Sto w' sb rb mb room its ∧ Fr w w' (Own sb rb mb its) := by
  obtain ⟨-, -, -, s3, -⟩ := sob_cells h.hs
  have hl := look_none h.hm hk hno
  have H := Go.Lib.hid h
  clear h hk hno
  go_enter Try.func6, Try.ntmps6
  go_wp2
  go_ret
  exact ⟨rfl, H.out, Fr.refl _ _⟩

set_option maxHeartbeats 1000000 in
theorem drop_some (w : World) (sb rb mb : Nat) (room : Int) (p q : List It) (x : It) (h : Sto w sb rb mb room (p ++ x :: q)) :
    Calls Try.prog 6 #[.pointer (some ⟨sb, 0, none⟩), .string x.k] w fun e w' => e = .returned (.int .i64 0) ∧ Sto w' sb rb mb room (p ++ q) ∧ Fr w w' (Own sb rb mb (p ++ x :: q)) := by
  obtain ⟨-, -, -, s3, -⟩ := sob_cells h.hs
  have hl := look_some h.hm (by rw [h.one x (by simp)]; decide) h.keys
  have H := Go.Lib.hid h
  clear h
  go_enter Try.func6, Try.ntmps6
  go_wp2_with fail
  refine (drop_calls w sb rb mb room p q x H.out).mono ?_
  rintro e w' ⟨rfl, h1⟩
  have POST := Go.Lib.hid h1
  clear h1 s3 hl
  go_wp2
  go_ret
  exact ⟨rfl, POST.out⟩

set_option maxHeartbeats 1000000 in
theorem get_some (w : World) (sb rb mb : Nat) (room : Int) (p q : List It) (x : It) (h : Sto w sb rb mb room (p ++ x :: q)) :
    Calls Try.prog 7 #[.pointer (some ⟨sb, 0, none⟩), .string x.k] w fun e w' => e = .returned (.tuple #[.string x.v, .int .i64 0]) ∧ Sto w' sb rb mb room (x :: (p ++ q)) ∧ Fr w w' (Own sb rb mb (p ++ x :: q)) := by
  obtain ⟨-, -, -, s3, -⟩ := sob_cells h.hs
  have hl := look_some h.hm (by rw [h.one x (by simp)]; decide) h.keys
  have H := Go.Lib.hid h
  clear h
  go_enter Try.func7, Try.ntmps7
  go_wp2_with fail
  refine (out_calls w rb p q x H.out.hr).mono ?_
  rintro e w1 ⟨rfl, hr1, ⟨l, o, hx1⟩, F1⟩
  have hs1 : w1.heap[sb]? = some (sob room (tot (p ++ x :: q)) rb mb) := blk_kept H.out.hs F1.kept (fun h => ring_sb H.out.hs H.out.hr _ h rfl)
  have hm1 := H.out.hm.kept F1.kept (fun h => ring_mb H.out.hm H.out.hr _ h rfl)
  have hn1 : x.b ∉ rb :: (p ++ q).map It.b := by
    obtain ⟨L, O, -, h2, -, -⟩ := H.out.hr
    rw [List.map_append, List.map_cons] at h2
    have := nodup_mid (p := rb :: p.map It.b) h2
    rw [List.map_append]
    exact this.1
  have HS1 := Go.Lib.hid hs1
  have HR1 := Go.Lib.hid hr1
  have HM1 := Go.Lib.hid hm1
  have HX1 := Go.Lib.hid hx1
  have HF1 := Go.Lib.hid F1
  have HN1 := Go.Lib.hid hn1
  clear hs1 hr1 hm1 hx1 F1 hn1 s3 hl
  go_wp2_with fail
  refine (front_calls w1 sb rb mb room _ (p ++ q) x (.pointer (some ⟨l, 0, none⟩)) (.pointer (some ⟨o, 0, none⟩)) HS1.out HR1.out HX1.out HN1.out).mono ?_
  rintro e w2 ⟨rfl, hr2, F2⟩
  have hs2 : w2.heap[sb]? = some (sob room (tot (p ++ x :: q)) rb mb) := blk_kept HS1.out F2.kept (fun h => by
    simp only [List.map_cons, List.mem_cons] at h
    rcases h with h | h | h
    · exact ring_sb HS1.out HR1.out _ (by simp) h
    · exact sob_ne HS1.out HX1.out h
    · exact ring_sb HS1.out HR1.out _ (List.mem_cons_of_mem _ h) rfl)
  have hm2 : Mp w2 mb (p ++ x :: q) := HM1.out.kept F2.kept (fun h => by
    simp only [List.map_cons, List.mem_cons] at h
    rcases h with h | h | h
    · exact ring_mb HM1.out HR1.out _ (by simp) h
    · exact (mb_ne HM1.out HX1.out).symm h
    · exact ring_mb HM1.out HR1.out _ (List.mem_cons_of_mem _ h) rfl)
  have hperm : (p ++ x :: q).Perm (x :: (p ++ q)) := List.perm_middle
  have ht : tot (p ++ x :: q) = tot (x :: (p ++ q)) := tot_mid p q x
  have hsto : Sto w2 sb rb mb room (x :: (p ++ q)) := by
    refine ⟨by rw [← ht]; exact hs2, hr2, hm2.perm hperm, ((hperm.map It.k).nodup_iff).1 H.out.keys, fun y hy => H.out.one y (hperm.mem_iff.2 hy), by rw [← ht]; exact H.out.le, H.out.lo, H.out.hi⟩
  have hx2 : ∃ l o, w2.heap[x.b]? = some (ob x.k x.v l o) := by
    obtain ⟨L, O, -, -, -, hi⟩ := hr2
    exact ⟨_, _, hi x (by simp)⟩
  have F3 : Fr w w2 (Own sb rb mb (p ++ x :: q)) := (HF1.out.mono (fun k hk => Or.inr (Or.inr hk))).trans F2 (fun k hk => Or.inl (Or.inr (Or.inr (by
    simp only [List.map_cons, List.mem_cons, List.map_append, List.mem_append] at hk ⊢
    rcases hk with h | h | h | h
    · exact Or.inl h
    · exact Or.inr (Or.inr (Or.inl h))
    · exact Or.inr (Or.inl h)
    · exact Or.inr (Or.inr (Or.inr h))))))
  obtain ⟨l2, o2, hx2⟩ := hx2
  obtain ⟨-, x1, -, -, -, -⟩ := ob_cells hx2
  have POST := Go.Lib.hid (And.intro hsto F3)
  clear hs2 hm2 hperm ht hsto hr2 F2 F3 hx2
  go_wp2
  go_ret2
  exact ⟨rfl, POST.out⟩
end Go.Proofs.Ytijjebogbjaeiaa.St
