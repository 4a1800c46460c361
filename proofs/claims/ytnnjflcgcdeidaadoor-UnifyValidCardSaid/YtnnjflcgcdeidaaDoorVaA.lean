import Derived.Test.YtnnjflcgcdeidaaDoorPUnifyValidx0
import Derived.Lib.Hide
import Derived.Deep.QuietTactic
import Derived.BigQuiet
import Derived.Outline
namespace Go.Proofs.YtnnjflcgcdeidaaDoor.Va
open Go.RowKit Go.Proofs.YtnnjflcgcdeidaaDoor.PUnifyValid Go.Proofs.YtnnjflcgcdeidaaDoorW.PrintWords Go.Proofs.YtnnjflcgcdeidaaDoorW.PrintLast Go.Proofs.YtnnjflcgcdeidaaDoorW.PrintMore

/-- The sizes of the lists of arguments, in memory. -/
def Tab (w : World) : Prop := w.cell? ⟨0, 0, none⟩ = some (.int .i64 0) ∧ w.cell? ⟨0, 1, none⟩ = some (.int .i64 (-1)) ∧ w.cell? ⟨0, 2, none⟩ = some (.int .i64 3) ∧ w.cell? ⟨0, 3, none⟩ = some (.int .i64 1) ∧ w.cell? ⟨0, 4, none⟩ = some (.int .i64 0) ∧ w.cell? ⟨0, 5, none⟩ = some (.int .i64 2)

/-- All blocks but g are as before. -/
structure Kb (g : Nat) (w w' : World) : Prop where
  os : w'.os = w.os
  tape : w'.tape = w.tape
  output : w'.output = w.output
  size : w.heap.size ≤ w'.heap.size
  block : ∀ k, k < w.heap.size → k ≠ g → w'.heap[k]? = w.heap[k]?

theorem Kb.refl (g : Nat) (w : World) : Kb g w w := ⟨rfl, rfl, rfl, Nat.le_refl _, fun _ _ _ => rfl⟩
theorem Kb.trans {g : Nat} {a b c : World} (h : Kb g a b) (k : Kb g b c) : Kb g a c :=
  ⟨k.os.trans h.os, k.tape.trans h.tape, k.output.trans h.output, Nat.le_trans h.size k.size, fun i hi hn => (k.block i (Nat.lt_of_lt_of_le hi h.size) hn).trans (h.block i hi hn)⟩
theorem Kb.of_below {g : Nat} {a b : World} (h : Below a.heap.size a b) : Kb g a b := ⟨h.os, h.tape, h.output, h.size, fun k hk _ => h.block k hk⟩
theorem Kb.alloc (g : Nat) (w : World) (o : Obj) : Kb g w (w.alloc o) := Kb.of_below ((Below.refl _ _).alloc (Nat.le_refl _) o)
theorem Kb.set (g i : Nat) (w : World) (v : Value) : Kb g w (w.setCell ⟨g, i, none⟩ v) := ⟨rfl, rfl, rfl, by simp [World.setCell], fun k _ hk => Below.heap_setCell _ _ _ _ hk⟩
theorem Kb.keep {g k : Nat} {w w' : World} {o : Obj} (h : Kb g w w') (hk : w.heap[k]? = some o) (hn : k ≠ g) : w'.heap[k]? = some o := (h.block k (blk_lt hk) hn).trans hk
theorem Kb.below {g : Nat} {w0 w w' : World} (h : Kb g w w') (hb : Below w0.heap.size w0 w) (hg : w0.heap.size ≤ g) : Below w0.heap.size w0 w' :=
  ⟨h.os.trans hb.os, h.tape.trans hb.tape, h.output.trans hb.output, Nat.le_trans hb.size h.size, fun k hk => (h.block k (Nat.lt_of_lt_of_le hk hb.size) (by omega)).trans (hb.block k hk)⟩
theorem Tab.lift {w w' : World} (h : Tab w) (hb : Below w.heap.size w w') : Tab w' := by
  obtain ⟨h0, h1, h2, h3, h4, h5⟩ := h
  exact ⟨pw_cell_below hb h0, pw_cell_below hb h1, pw_cell_below hb h2, pw_cell_below hb h3, pw_cell_below hb h4, pw_cell_below hb h5⟩

/-- The arguments, one after another. -/
def lp (G : S24 → Bool → Int → Int → Int × Int) (rd : Int → S24 → Bool) (d : Int) : List S24 → Int → Int → Int × Int
  | [], _, l => (l, 0)
  | y :: ys, i, l => if (G y (rd i y) (d + 1) l).2 = 0 then lp G rd d ys (i + 1) (G y (rd i y) (d + 1) l).1 else G y (rd i y) (d + 1) l

/-- Whether the form is wrong. -/
def bad (K V : Int) (N : ByteArray) (n : Int) : Bool :=
  (decide (K = 0) && decide (n ≠ 0)) || (decide (K = 2) && decide (n ≠ 3)) || (decide (K = 3) && decide (n ≠ 1)) || (decide (K = 4) && decide (n ≠ 0)) || (decide (K = 5) && decide (n ≠ 2))
    || (decide (K ≠ 0) && decide (V ≠ 0)) || (decide (K ≠ 1) && decide (K ≠ 5) && !N.toList.isEmpty)

def rdOf (K : Int) (i : Int) (y : S24) : Bool := (decide (K = 2) && decide (i = 1)) || decide (K = 3) || (decide (K = 5) && decide (i = 1)) || (decide (K = 1) && decide (4 ≤ y.f0))

/-- One step of the check: what is left, and the error. -/
def step (G : S24 → Bool → Int → Int → Int × Int) (K V : Int) (N : ByteArray) (L : List S24) (row : Bool) (d l : Int) : Int × Int :=
  if l - 1 < 0 ∨ 400 < d then (l - 1, 2)
  else if K < 0 ∨ 5 < K then (l - 1, 9)
  else if bad K V N L.length = true then (l - 1, 3)
  else if K ≠ 0 ∧ row ≠ decide (4 ≤ K) then (l - 1, 9)
  else if K = 0 ∧ (V < 0 ∨ 4096 ≤ V) then (l - 1, 4)
  else lp G (rdOf K) d L 0 (l - 1)

/-- Bounds of what is left. -/
def Good (g : Bool → Int → Int → Int × Int) : Prop := ∀ row d l, 0 ≤ l → l ≤ 4096 → (g row d l).1 ≤ 4096 ∧ ((g row d l).2 = 0 → 0 ≤ (g row d l).1)

/-- check does g. -/
def Chk (x : S24) (g : Bool → Int → Int → Int × Int) : Prop :=
  ∀ (w0 w : World) (gb : Nat) (A : Option Addr) (c : Nat) (row : Bool) (d l : Int), Tab w0 → k24.C w0 A x.f3.length x.f3 → Below w0.heap.size w0 w → w0.heap.size ≤ gb → w.heap[gb]? = some (.cells #[.int .i64 l] 54 (0, 0)) → 0 ≤ l → l ≤ 4096 → 0 ≤ d → d ≤ 401 →
    Calls Tryd.prog 17 #[.pointer (some ⟨gb, 0, none⟩), .agg #[.int .i64 x.f0, .string x.f1, .int .i64 x.f2, .slice A x.f3.length c], .bool row, .int .i64 d] w fun e w' => e = .returned (.int .i64 (g row d l).2) ∧ w'.heap[gb]? = some (.cells #[.int .i64 (g row d l).1] 54 (0, 0)) ∧ Kb gb w w'

/-- What a call of check leaves. -/
def Left (gb : Nat) (w : World) (r : Int × Int) (e : Ending) (w' : World) : Prop := e = .returned (.int .i64 r.2) ∧ w'.heap[gb]? = some (.cells #[.int .i64 r.1] 54 (0, 0)) ∧ Kb gb w w'

theorem left_now {gb : Nat} {w : World} {l : Int} (h : Hid (w.heap[gb]? = some (.cells #[.int .i64 l] 54 (0, 0)))) (l' er : Int) (o : Obj) : Left gb w (l', er) (.returned (.int .i64 er)) ((w.alloc o).setCell ⟨gb, 0, none⟩ (.int .i64 l')) :=
  ⟨rfl, blk_put (blk_alloc h.out o) 0 _ rfl, (Kb.alloc gb w o).trans (Kb.set gb 0 _ _)⟩

theorem left_nowd {gb : Nat} {w : World} {l : Int} (h : Hid (w.heap[gb]? = some (.cells #[.int .i64 l] 54 (0, 0)))) (l' er : Int) (o : Obj) (m : Nat) : Left gb w (l', er) (.returned (.int .i64 er)) (((w.alloc o).setCell ⟨gb, 0, none⟩ (.int .i64 l')).drewN m) :=
  ⟨rfl, blk_put (blk_alloc h.out o) 0 _ rfl, (Kb.alloc gb w o).trans ((Kb.set gb 0 _ _).trans (Kb.of_below (pw_below_drewN (Below.refl _ _) m)))⟩

theorem lift1 {w : World} {a : Addr} {v : Value} (h : w.cell? a = some v) : ∀ o, (w.alloc o).cell? a = some v := fun o => pw_cell_below ((Below.refl _ _).alloc (Nat.le_refl _) o) h

theorem drop_rd {L : List S24} {i : Nat} (h : i < L.length) : L.drop i = rd_T24 L (i : Int) :: L.drop (i + 1) := by
  rw [List.drop_eq_getElem_cons h]
  unfold rd_T24
  rw [Int.toNat_natCast, List.getD_eq_getElem?_getD, List.getElem?_eq_getElem h]
  rfl
theorem mem_rd {L : List S24} {i : Nat} (h : i < L.length) : rd_T24 L (i : Int) ∈ L := by
  unfold rd_T24
  rw [Int.toNat_natCast, List.getD_eq_getElem?_getD, List.getElem?_eq_getElem h]
  exact List.getElem_mem h


/-- What typeError returns. -/
def Told (w : World) (r : Int × Int) (e : Ending) (w' : World) : Prop := e = .returned (.tuple #[.int .i64 (4096 - r.1), .int .i64 r.2]) ∧ Below w.heap.size w w'

/-- typeError does g. -/
def Ref (x : S24) (g : Bool → Int → Int → Int × Int) : Prop :=
  ∀ (w : World) (A : Option Addr) (c : Nat) (row : Bool) (d s : Int), k24.C w A x.f3.length x.f3 → 0 ≤ s → s ≤ 4096 → 0 ≤ d → d ≤ 401 →
    Calls Tryd.prog 18 #[.agg #[.int .i64 x.f0, .string x.f1, .int .i64 x.f2, .slice A x.f3.length c], .bool row, .int .i64 d, .int .i64 s] w fun e w' => Told w (g row d (4096 - s)) e w'

theorem told_now {w : World} (s er : Int) (o o' : Obj) (m : Nat) : Told w (4096 - s - 1, er) (.returned (.tuple #[.int .i64 (s + 1), .int .i64 er])) (((w.alloc o).alloc o').drewN m) :=
  ⟨by simp; omega, pw_below_drewN (((Below.refl _ _).alloc (Nat.le_refl _) o).alloc (by simp) o') m⟩
theorem told_now0 {w : World} (s er : Int) (o o' : Obj) : Told w (4096 - s - 1, er) (.returned (.tuple #[.int .i64 (s + 1), .int .i64 er])) ((w.alloc o).alloc o') :=
  ⟨by simp; omega, (((Below.refl _ _).alloc (Nat.le_refl _) o).alloc (by simp) o')⟩
end Go.Proofs.YtnnjflcgcdeidaaDoor.Va
