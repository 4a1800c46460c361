import Derived.Test.YtemdfhaceddmpaaTf
import Derived.Test.YtemdfhaceddmpaaPPrinterTellsx1
namespace Go.Proofs.Ytemdfhaceddmpaa.Tr
open Go.Shelf Go.RowKit Go.Proofs.Ytemdfhaceddmpaa.PPrinterTells Go.Proofs.YtemdfhaceddmpaaW.PrintWords Go.Proofs.YtemdfhaceddmpaaW.PrintLast Go.Proofs.YtemdfhaceddmpaaW.PrintMore
set_option linter.unusedVariables false
set_option linter.unusedSimpArgs false

/-- The items of a shape's text. -/
def dec : List UInt8 → List (UInt8 × UInt8)
  | [] => []
  | [c] => [(c, 0)]
  | c :: m :: r => if m = 42 ∨ m = 43 ∨ m = 63 then (c, m) :: dec r else (c, 0) :: dec (m :: r)
def okB (x : UInt8 × UInt8) : Bool := decide (((x.1.toNat : Nat) : Int) ∈ letters) && (decide (x.2 = 0) || decide (x.2 = 42) || decide (x.2 = 43) || decide (x.2 = 63))
theorem okB_ok {x : UInt8 × UInt8} (h : okB x = true) : okI x := by
  unfold okB at h
  simp only [Bool.and_eq_true, Bool.or_eq_true, decide_eq_true_eq] at h
  exact ⟨h.1, by rcases h.2 with ((h | h) | h) | h; exact Or.inl h; exact Or.inr (Or.inl h); exact Or.inr (Or.inr (Or.inl h)); exact Or.inr (Or.inr (Or.inr h))⟩
/-- A text that is a shape's. -/
def shB (r : ByteArray) : Bool := (enc (dec r.data.toList) == r.data.toList) && (dec r.data.toList).all okB && decide ((dec r.data.toList).length ≤ 10)
def Shp (k : Int) (o : Option ByteArray) : Prop := ∃ r, o = some r ∧ shB r = true ∧ (k = 19 → r = ⟨#[88]⟩)

theorem Shp.ite {k : Int} {c : Prop} [Decidable c] {a b : Option ByteArray} (h1 : c → Shp k a) (h2 : ¬ c → Shp k b) : Shp k (if c then a else b) := by
  by_cases h : c
  · rw [if_pos h]; exact h1 h
  · rw [if_neg h]; exact h2 h
theorem Shp.mk {k : Int} {r : ByteArray} (h1 : shB r = true) (h2 : k = 19 → r = ⟨#[88]⟩) : Shp k (some r) := ⟨r, rfl, h1, h2⟩

set_option maxRecDepth 100000 in
set_option maxHeartbeats 4000000 in
theorem shape_shp (k : Int) : Shp k (provenanceref1_shapeText.f 20 k) := by
  unfold provenanceref1_shapeText.f
  simp only [provenanceref1_shapeText.j0, provenanceref1_shapeText.j1, provenanceref1_shapeText.j2, provenanceref1_shapeText.j3]
  simp only [beq_iff_eq]
  repeat' (refine Shp.ite (fun _ => ?_) (fun _ => ?_))
  all_goals refine Shp.mk (by decide +kernel) (fun h => ?_)
  all_goals first | rfl | (exfalso; omega)
/-- The items of a kind's shape. -/
noncomputable def itemsOf (k : Int) : List (UInt8 × UInt8) := dec (((provenanceref1_shapeText.f 20 k).getD ⟨#[]⟩).data.toList)
noncomputable def textOf (k : Int) : ByteArray := (provenanceref1_shapeText.f 20 k).getD ⟨#[]⟩
theorem text_ok (k : Int) : (textOf k).data.toList = enc (itemsOf k) ∧ (∀ x ∈ itemsOf k, okI x) ∧ (itemsOf k).length ≤ 10 ∧ (k = 19 → itemsOf k = [(88, 0)]) := by
  obtain ⟨r, hr, h1, h2⟩ := shape_shp k
  have e : textOf k = r := by unfold textOf; rw [hr]; rfl
  have e2 : itemsOf k = dec r.data.toList := by unfold itemsOf; rw [hr]; rfl
  unfold shB at h1
  simp only [Bool.and_eq_true, beq_iff_eq, decide_eq_true_eq] at h1
  rw [e, e2]
  refine ⟨h1.1.1.symm, fun x hx => okB_ok (List.all_eq_true.1 h1.1.2 x hx), h1.2, fun hk => ?_⟩
  rw [h2 hk]
  rfl
theorem shape_calls (k : Int) (w : World) : Calls Try.prog 23 #[.int .i64 k] w fun e w' => e = .returned (.string (textOf k)) ∧ Drawn0 w w' := by
  obtain ⟨r, hr, -, -⟩ := shape_shp k
  have e : textOf k = r := by unfold textOf; rw [hr]; rfl
  rw [e]
  exact provenanceref1_shapeText.calls 20 k r w hr
end Go.Proofs.Ytemdfhaceddmpaa.Tr
