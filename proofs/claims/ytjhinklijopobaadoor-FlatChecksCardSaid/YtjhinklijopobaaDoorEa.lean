import Derived.Test.YtjhinklijopobaaDoorGCC8
namespace Go.Proofs.YtjhinklijopobaaDoor.Co
open Go.RowKit Go.Proofs.YtjhinklijopobaaDoor.PCoreChecks Go.Proofs.YtjhinklijopobaaDoorW.PrintWords Go.Proofs.YtjhinklijopobaaDoorW.PrintLast Go.Proofs.YtjhinklijopobaaDoorW.PrintMore
set_option linter.unusedVariables false
set_option linter.unusedSimpArgs false

/-! ### Functions of a program (type 91) -/
structure S91 where
  f0 : Int
  f1 : List Int
  f2 : List S28
def z91 : S91 := ⟨0, [], []⟩
def k91 : Kd S91 := Kd.iso (Kd.pair (Kd.int .i64) (Kd.pair (Kd.slice 3 (Kd.int .i64)) (Kd.slice 28 k28))) (fun x : S91 => (x.f0, x.f1, x.f2))
theorem k91_open {w : World} {x : S91} {cs : List Value} (h : k91.K w x cs) : ∃ A1 c1 A2 c2, cs = [.int .i64 x.f0, .slice A1 x.f1.length c1, .slice A2 x.f2.length c2] ∧ x.f1.length ≤ c1 ∧ (Kd.int .i64).C w A1 x.f1.length x.f1 ∧ x.f2.length ≤ c2 ∧ k28.C w A2 x.f2.length x.f2 := by
  obtain ⟨_, _, rfl, rfl, ⟨_, _, rfl, ⟨A1, c1, rfl, l1, g1⟩, ⟨A2, c2, rfl, l2, g2⟩⟩⟩ := h
  exact ⟨A1, c1, A2, c2, rfl, l1, g1, l2, g2⟩
theorem k91_mk (w : World) (x : S91) {A1 : Option Addr} {c1 : Nat} (l1 : x.f1.length ≤ c1) (g1 : (Kd.int .i64).C w A1 x.f1.length x.f1) {A2 : Option Addr} {c2 : Nat} (l2 : x.f2.length ≤ c2) (g2 : k28.C w A2 x.f2.length x.f2) : k91.K w x [.int .i64 x.f0, .slice A1 x.f1.length c1, .slice A2 x.f2.length c2] :=
  ⟨[.int .i64 x.f0], [.slice A1 x.f1.length c1, .slice A2 x.f2.length c2], rfl, rfl, ⟨[.slice A1 x.f1.length c1], [.slice A2 x.f2.length c2], rfl, ⟨A1, c1, rfl, l1, g1⟩, ⟨A2, c2, rfl, l2, g2⟩⟩⟩
def rd_T91 (xs : List S91) (i : Int) : S91 := xs.getD i.toNat z91
theorem at_T91 {w : World} {A : Option Addr} {n : Nat} {xs : List S91} (h : Kd.C k91 w A n xs) (i : Int) (h0 : 0 ≤ i) (h1 : i < n) : ∃ ad A1 c1 A2 c2, A = some ad ∧ w.cell? (ad.add (i.toNat * 3)) = some (.int .i64 (rd_T91 xs i).f0) ∧ w.cell? ⟨(ad.add (i.toNat * 3)).block, (ad.add (i.toNat * 3)).off + 1, none⟩ = some (.slice A1 (rd_T91 xs i).f1.length c1) ∧ w.cell? ⟨(ad.add (i.toNat * 3)).block, (ad.add (i.toNat * 3)).off + 2, none⟩ = some (.slice A2 (rd_T91 xs i).f2.length c2) ∧ (rd_T91 xs i).f1.length ≤ c1 ∧ (Kd.int .i64).C w A1 (rd_T91 xs i).f1.length (rd_T91 xs i).f1 ∧ (rd_T91 xs i).f2.length ≤ c2 ∧ k28.C w A2 (rd_T91 xs i).f2.length (rd_T91 xs i).f2 := by
  obtain ⟨ad, c, e, _, hK, hc0⟩ := Kd.C_get h z91 i h0 h1
  have hc : ∀ j u, c[j]? = some u → w.cell? (ad.add (i.toNat * 3 + j)) = some u := hc0
  obtain ⟨A1, c1, A2, c2, rfl, l1, g1, l2, g2⟩ := k91_open hK
  exact ⟨ad, A1, c1, A2, c2, e, hc 0 _ rfl, by rw [← add_field _ _ 1 (by omega)]; exact hc 1 _ rfl, by rw [← add_field _ _ 2 (by omega)]; exact hc 2 _ rfl, l1, g1, l2, g2⟩
theorem rdF_nat (l : List S91) (i : Nat) (h : i < l.length) : rd_T91 l (i : Int) = l[i]'h := by
  unfold rd_T91
  rw [Int.toNat_natCast, List.getD_eq_getElem?_getD, List.getElem?_eq_getElem h]; rfl

/-! ### What a program's check answers -/
/-- The error of a node that calls or closes a function. -/
def callE (fs : List S91) (x : S28) : Int :=
  if x.f0 = 14 ∨ x.f0 = 15 then (if (fs.length : Int) ≤ x.f1 then 4 else if (x.f0 = 14 ∧ ((rd_T91 fs x.f1).f1.length : Int) ≠ (x.f3.length : Int)) ∨ (x.f0 = 15 ∧ ((rd_T91 fs x.f1).f1.length : Int) = 0) then 3 else 0) else 0
/-- The error of a function. -/
noncomputable def fnE (fs : List S91) (f : S91) : Int :=
  if f.f0 < -1 ∨ 1048576 ≤ f.f0 then 4 else if 6 < f.f1.length then 2 else if f.f1.all idB = true then (if bodyErr f.f2 f.f1 true = 0 then firstE (callE fs) f.f2 else bodyErr f.f2 f.f1 true) else 4
/-- The first error of a list of functions. -/
def firstG {α : Type} (f : α → Int) : List α → Int
  | [] => 0
  | x :: l => if f x = 0 then firstG f l else f x
theorem firstG_drop {α : Type} (f : α → Int) (t : List α) (i : Nat) (h : i < t.length) : firstG f (t.drop i) = if f (t[i]'h) = 0 then firstG f (t.drop (i + 1)) else f (t[i]'h) := by
  rw [List.drop_eq_getElem_cons h]; rfl
/-- The error of a program. -/
noncomputable def progE (fs : List S91) (mn : Int) : Int :=
  if fs.length = 0 then 3 else if 256 < fs.length then 2 else if mn < 0 ∨ (fs.length : Int) ≤ mn then 4 else if 0 < (rd_T91 fs mn).f1.length then 3 else firstG (fnE fs) fs
theorem body_nodes {t : List S28} {params : List Int} {flat : Bool} (h : bodyErr t params flat = 0) : ∀ x ∈ t, nodeErr flat t x = 0 := by
  unfold bodyErr at h
  by_cases h1 : 4096 < t.length
  · rw [if_pos h1] at h; contradiction
  · rw [if_neg h1] at h
    by_cases h2 : treeB t = true
    · rw [if_pos h2] at h
      by_cases h3 : 400 < heightT t
      · rw [if_pos h3] at h; contradiction
      · rw [if_neg h3] at h
        by_cases h4 : firstE (nodeErr flat t) t = 0
        · exact firstE_all _ _ h4
        · rw [if_neg h4] at h; exact absurd h h4
    · rw [if_neg h2] at h; contradiction
theorem num_pos {x : S28} (h : numErr x = 0) (ho : x.f0 = 14 ∨ x.f0 = 15) : 0 ≤ x.f1 := by
  unfold numErr at h
  by_cases hi : inB x.f1 (loB x.f0) (hiB x.f0) = true
  · unfold inB loB at hi
    rw [if_neg (by omega), if_neg (by omega), if_neg (by omega), if_neg (by omega)] at hi
    simp at hi
    omega
  · rw [if_neg hi] at h; contradiction
theorem body_pos {t : List S28} {params : List Int} {flat : Bool} (h : bodyErr t params flat = 0) : ∀ x ∈ t, x.f0 = 14 ∨ x.f0 = 15 → 0 ≤ x.f1 :=
  fun x hx ho => num_pos (nodeErr_ok (body_nodes h x hx)).2.1 ho
end Go.Proofs.YtjhinklijopobaaDoor.Co
