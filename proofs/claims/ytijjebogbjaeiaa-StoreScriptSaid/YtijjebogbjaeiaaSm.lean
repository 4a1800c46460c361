import Derived.Test.YtijjebogbjaeiaaSl
import Derived.Deep.RegionHeld3
namespace Go.Proofs.Ytijjebogbjaeiaa.St
open Go.Shelf Go.RowKit Go.Proofs.Ytijjebogbjaeiaa.PStoreScript Go.Proofs.YtijjebogbjaeiaaW.PrintWords Go.Proofs.YtijjebogbjaeiaaW.PrintLast Go.Proofs.YtijjebogbjaeiaaW.PrintMore
set_option linter.unusedVariables false
set_option linter.unusedSimpArgs false

def pr (x : It) : S45 := ⟨x.k, x.v⟩
theorem wo_pr (its : List It) (key : ByteArray) : wo (its.map pr) key = (its.filter (fun x => decide (x.k ≠ key))).map pr := by
  unfold wo
  rw [List.filter_map]
  rfl
theorem sz5_pr (its : List It) : sz5 (its.map pr) = szs its := by simp [sz5, szs, pr]
theorem keys_pr (its : List It) : (its.map pr).map S45.f0 = its.map It.k := by simp [pr]

/-- The box of the list of pairs. -/
def kob (room : Int) (A : Option Addr) (n c : Nat) : Obj := .cells #[.int .i64 room, .slice A n c] 31 (0, 0)

/-- The store and the list of pairs, side by side (the list may be behind by a call). -/
structure J (w0 w : World) (sb rb mb gk : Nat) (room : Int) (its : List It) (xs : List S45) (A : Option Addr) (c : Nat) : Prop where
  sto : Sto w sb rb mb room its
  box : w.heap[gk]? = some (kob room A xs.length c)
  row : Kd.R k45 45 w w0.heap.size (fun k => ¬ Own sb rb mb its k ∧ k ≠ gk) (.slice A xs.length c) xs
  below : Below w0.heap.size w0 w
  own : ∀ k, Own sb rb mb its k → w0.heap.size ≤ k
  gk0 : w0.heap.size ≤ gk
  gk1 : ¬ Own sb rb mb its gk

theorem Fr.below {w0 w w' : World} {S : Nat → Prop} (hb : Below w0.heap.size w0 w) (h : Fr w w' S) (hs : ∀ k, S k → w0.heap.size ≤ k) : Below w0.heap.size w0 w' :=
  ⟨h.os.trans hb.os, h.tape.trans hb.tape, h.output.trans hb.output, Nat.le_trans hb.size h.kept.1, fun k hk => (h.kept.2 k (Nat.lt_of_lt_of_le hk hb.size) (fun hn => by have := hs k hn; omega)).trans (hb.block k hk)⟩

/-- Behind a call of the store. -/
theorem J.store {w0 w w' : World} {sb rb mb gk : Nat} {room : Int} {its its' : List It} {xs : List S45} {A : Option Addr} {c : Nat} (h : J w0 w sb rb mb gk room its xs A c)
    (hs : Sto w' sb rb mb room its') (hf : Fr w w' (Own sb rb mb its)) (hn : ∀ k, Own sb rb mb its' k → Own sb rb mb its k ∨ w.heap.size ≤ k) : J w0 w' sb rb mb gk room its' xs A c := by
  have hgk : gk < w.heap.size := blk_lt h.box
  refine ⟨hs, blk_kept h.box hf.kept h.gk1, ?_, Fr.below h.below hf h.own, ?_, h.gk0, ?_⟩
  · refine Kd.R_mono (Kd.R_keptB h.row hf.kept (fun k hk => hk.1)) (fun k hk => ⟨fun ho => ?_, hk.1.2⟩)
    rcases hn k ho with h1 | h1
    · exact hk.1.1 h1
    · have := hk.2.2; omega
  · intro k hk
    rcases hn k hk with h1 | h1
    · exact h.own k h1
    · exact Nat.le_trans h.below.size h1
  · intro hk
    rcases hn gk hk with h1 | h1
    · exact h.gk1 h1
    · omega

/-- The blocks that a call of the list of pairs may write. -/
def Mine (sb rb mb gk : Nat) (its : List It) (A : Option Addr) (n c : Nat) (k : Nat) : Prop := some k = (Value.slice A n c).ownBlock ∧ (¬ Own sb rb mb its k ∧ k ≠ gk)
theorem J.tight {w0 w : World} {sb rb mb gk : Nat} {room : Int} {its : List It} {xs : List S45} {A : Option Addr} {c : Nat} (h : J w0 w sb rb mb gk room its xs A c) : Kd.R k45 45 w w0.heap.size (Mine sb rb mb gk its A xs.length c) (.slice A xs.length c) xs :=
  Kd.R_tight2 rfl h.row

/-- Behind a call of the list of pairs, and the store into its box. -/
theorem J.kept {w0 w w' : World} {sb rb mb gk : Nat} {room : Int} {its : List It} {xs xs' : List S45} {A A' : Option Addr} {c c' : Nat} (h : J w0 w sb rb mb gk room its xs A c)
    (hr : Kd.R k45 45 w' w0.heap.size (fun k => Mine sb rb mb gk its A xs.length c k ∨ w.heap.size ≤ k) (.slice A' xs'.length c') xs') (hb : Below w0.heap.size w0 w') (hk : Kept w w' (fun k => Mine sb rb mb gk its A xs.length c k)) :
    J w0 ((w'.setCell ⟨gk, 0, none⟩ (.int .i64 room)).setCell ⟨gk, 1, none⟩ (.slice A' xs'.length c')) sb rb mb gk room its xs' A' c' := by
  have hgk : gk < w.heap.size := blk_lt h.box
  have hlt := h.sto.own_lt
  have hs1 := h.sto.fr hk (fun k ho hm => hm.2.1 ho)
  have hb1 := blk_kept h.box hk (fun hm => hm.2.2 rfl)
  have hr1 : Kd.R k45 45 w' w0.heap.size (fun k => ¬ Own sb rb mb its k ∧ k ≠ gk) (.slice A' xs'.length c') xs' := Kd.R_mono hr (fun k hk' => by
    rcases hk' with h1 | h1
    · exact h1.2
    · exact ⟨fun ho => by have := hlt k ho; omega, by omega⟩)
  have ks : Kept w' ((w'.setCell ⟨gk, 0, none⟩ (.int .i64 room)).setCell ⟨gk, 1, none⟩ (.slice A' xs'.length c')) (fun k => k = gk) := ((Kept.refl w' (fun k => k = gk)).setCell (p := ⟨gk, 0, none⟩) (Or.inl rfl) _).setCell (p := ⟨gk, 1, none⟩) (Or.inl rfl) _
  refine ⟨hs1.fr ks (fun k ho e => h.gk1 (e ▸ ho)), ?_, Kd.R_kept hr1 ks (fun k hk' e => hk'.2 e), (hb.setCell h.gk0 _).setCell h.gk0 _, h.own, h.gk0, h.gk1⟩
  exact blk_put (blk_put hb1 0 _ rfl) 1 _ rfl

theorem J.bounds {w0 w : World} {sb rb mb gk : Nat} {room : Int} {its : List It} {xs : List S45} {A : Option Addr} {c : Nat} (h : J w0 w sb rb mb gk room its xs A c) (hx : xs = its.map pr) :
    xs.length ≤ 16777216 ∧ sm (sz5 xs) = tot its ∧ tot its ≤ 16777216 := by
  have h1 := h.sto.len
  have h2 := h.sto.le
  have h3 := h.sto.hi
  refine ⟨by rw [hx]; simpa using h1, by rw [hx, sz5_pr, tot_sm], by omega⟩

/-- The cells of the box. -/
theorem J.cells {w0 w : World} {sb rb mb gk : Nat} {room : Int} {its : List It} {xs : List S45} {A : Option Addr} {c : Nat} (h : J w0 w sb rb mb gk room its xs A c) :
    w.cell? ⟨gk, 0, none⟩ = some (.int .i64 room) ∧ w.cell? ⟨gk, 1, none⟩ = some (.slice A xs.length c) ∧ w.frozen? ⟨gk, 0, none⟩ = false ∧ w.frozen? ⟨gk, 1, none⟩ = false :=
  ⟨(blk_cell h.box 0).trans rfl, (blk_cell h.box 1).trans rfl, blk_frozen h.box 0, blk_frozen h.box 1⟩

/-- Behind what writes nothing old. -/
theorem J.up {w0 w w' : World} {sb rb mb gk : Nat} {room : Int} {its : List It} {xs : List S45} {A : Option Addr} {c : Nat} (h : J w0 w sb rb mb gk room its xs A c) (hb : Below w.heap.size w w') : J w0 w' sb rb mb gk room its xs A c :=
  ⟨h.sto.below hb h.sto.own_lt, blk_below h.box hb, Kd.R_below h.row hb, h.below.trans (hb.mono h.below.size), h.own, h.gk0, h.gk1⟩
end Go.Proofs.Ytijjebogbjaeiaa.St
