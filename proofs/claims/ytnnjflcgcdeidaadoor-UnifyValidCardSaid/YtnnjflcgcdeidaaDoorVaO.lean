import Derived.Test.YtnnjflcgcdeidaaDoorVaA
namespace Go.Proofs.YtnnjflcgcdeidaaDoor.Va
open Go.RowKit Go.Proofs.YtnnjflcgcdeidaaDoor.PUnifyValid Go.Proofs.YtnnjflcgcdeidaaDoorW.PrintWords Go.Proofs.YtnnjflcgcdeidaaDoorW.PrintLast Go.Proofs.YtnnjflcgcdeidaaDoorW.PrintMore
set_option linter.unusedSimpArgs false
set_option linter.unusedVariables false

set_option maxHeartbeats 8000000 in
set_option maxRecDepth 100000 in
theorem chk_out (G : S24 → Bool → Int → Int → Int × Int) (K : Int) (hK : K < 0 ∨ 5 < K) (V : Int) (N : ByteArray) (L : List S24) (hX : ∀ y ∈ L, Chk y (G y) ∧ Good (G y)) (w0 w : World) (gb : Nat) (A : Option Addr) (c : Nat) (row : Bool) (d l : Int)
    (hT : Tab w0) (hC : k24.C w0 A L.length L) (hb : Below w0.heap.size w0 w) (hlt : w0.heap.size ≤ gb) (hg : w.heap[gb]? = some (.cells #[.int .i64 l] 54 (0, 0))) (h0 : 0 ≤ l) (h1 : l ≤ 4096) (hd0 : 0 ≤ d) (hd1 : d ≤ 401) :
    Calls Tryd.prog 17 #[.pointer (some ⟨gb, 0, none⟩), .agg #[.int .i64 K, .string N, .int .i64 V, .slice A L.length c], .bool row, .int .i64 d] w fun e w' => Left gb w (step G K V N L row d l) e w' := by
  have HX := Go.Lib.hid hX
  clear hX
  have HB := Go.Lib.hid hb
  have HC := Go.Lib.hid hC
  have HG := Go.Lib.hid hg
  have HT := Go.Lib.hid hT
  have hs0 : 0 < w0.heap.size := World.block_lt_of_cell? w0 ⟨0, 0, none⟩ hT.1
  have hbs := hb.size
  have hne0 : ¬ (0 = gb) := by omega
  have hgl := blk_lt hg
  have HGL := Go.Lib.hid hgl
  have g0 := fun o => (blk_cell (blk_alloc hg o) 0).trans (show #[Value.int IntKind.i64 l][0]? = some (.int .i64 l) from rfl)
  have g1 := fun o i => blk_frozen (blk_alloc hg o) i
  have hT' := hT.lift hb
  have tb := fun (o : Obj) (v : Value) => (⟨fun i => rfl, trivial⟩ : (∀ i : Nat, ((w.alloc o).setCell ⟨gb, 0, none⟩ v).cell? ⟨0, i, none⟩ = ((w.alloc o).setCell ⟨gb, 0, none⟩ v).cell? ⟨0, i, none⟩) ∧ True)
  clear tb
  have bx := fun (v : Value) => blk_far (blk_new w (.cells #[.int .i64 K, .string N, .int .i64 V, .slice A L.length c] 24 (0, 0))) (p := ⟨gb, 0, none⟩) (by simp; omega) v
  have b0 := fun v => (blk_cell (bx v) 0).trans (show _ = some (Value.int .i64 K) from rfl)
  have b1 := fun v => (blk_cell (bx v) 1).trans (show _ = some (Value.string N) from rfl)
  have b2 := fun v => (blk_cell (bx v) 2).trans (show _ = some (Value.int .i64 V) from rfl)
  have b3 := fun v => (blk_cell (bx v) 3).trans (show _ = some (Value.slice A L.length c) from rfl)
  have BX := Go.Lib.hid bx
  clear bx
  have tl : ∀ (o : Obj) (v : Value) (a : Addr) (u : Value), a.block ≠ gb → w.cell? a = some u → ((w.alloc o).setCell ⟨gb, 0, none⟩ v).cell? a = some u := by
    intro o v a u hn hu
    have h2 := (Kb.trans (Kb.alloc gb w o) (Kb.set gb 0 _ v)).block a.block (World.block_lt_of_cell? w a hu) hn
    simpa [World.cell?, h2] using hu
  obtain ⟨t0, t1, t2, t3, t4, t5⟩ := hT'
  replace t0 := fun o v => tl o v _ _ (by simp; omega) t0
  replace t1 := fun o v => tl o v _ _ (by simp; omega) t1
  replace t2 := fun o v => tl o v _ _ (by simp; omega) t2
  replace t3 := fun o v => tl o v _ _ (by simp; omega) t3
  replace t4 := fun o v => tl o v _ _ (by simp; omega) t4
  replace t5 := fun o v => tl o v _ _ (by simp; omega) t5
  clear tl
  clear hb hC hg hT hgl hbs
  go_enter Tryd.func17, Tryd.ntmps17
  by_cases ha : l - 1 < 0
  · skip
    rw [show step G K V N L row d l = (l - 1, 2) by simp [step, bad, ha]]
    have ha_b : decide (l - 1 < 0) = true := decide_eq_true ha
    go_wp2_with fail
    go_ret
    exact left_now HG _ _ _
  by_cases hd : 400 < d
  · skip
    rw [show step G K V N L row d l = (l - 1, 2) by simp [step, bad, ha, hd]]
    have ha_b : decide (l - 1 < 0) = false := decide_eq_false ha
    have hd_b : decide (400 < d) = true := decide_eq_true hd
    go_wp2_with fail
    go_ret
    exact left_now HG _ _ _
  by_cases hk0 : K < 0
  · skip
    rw [show step G K V N L row d l = (l - 1, 9) by simp [step, bad, ha, hd, hk0]]
    have ha_b : decide (l - 1 < 0) = false := decide_eq_false ha
    have hd_b : decide (400 < d) = false := decide_eq_false hd
    have hk0_b : decide (K < 0) = true := decide_eq_true hk0
    go_wp2_with fail
    go_ret
    exact left_now HG _ _ _
  have hk5 : 5 < K := by omega
  have hk5_b : decide (5 < K) = true := decide_eq_true hk5
  rw [show step G K V N L row d l = (l - 1, 9) by simp [step, bad, ha, hd, hk0, hk5]]
  have ha_b : decide (l - 1 < 0) = false := decide_eq_false ha
  have hd_b : decide (400 < d) = false := decide_eq_false hd
  have hk0_b : decide (K < 0) = false := decide_eq_false hk0
  go_wp2_with fail
  go_ret
  exact left_now HG _ _ _

set_option maxHeartbeats 8000000 in
set_option maxRecDepth 100000 in
theorem ref_out (G : S24 → Bool → Int → Int → Int × Int) (K : Int) (hK : K < 0 ∨ 5 < K) (V : Int) (N : ByteArray) (L : List S24) (hX : ∀ y ∈ L, Ref y (G y) ∧ Good (G y)) (w : World) (A : Option Addr) (c : Nat) (row : Bool) (d s : Int)
    (hC : k24.C w A L.length L) (h0 : 0 ≤ s) (h1 : s ≤ 4096) (hd0 : 0 ≤ d) (hd1 : d ≤ 401) :
    Calls Tryd.prog 18 #[.agg #[.int .i64 K, .string N, .int .i64 V, .slice A L.length c], .bool row, .int .i64 d, .int .i64 s] w fun e w' => Told w (step G K V N L row d (4096 - s)) e w' := by
  have HX := Go.Lib.hid hX
  have HC := Go.Lib.hid hC
  clear hX hC
  go_enter Tryd.func18, Tryd.ntmps18
  by_cases ha : 4096 < s + 1
  · skip
    rw [show step G K V N L row d (4096 - s) = (4096 - s - 1, 2) by simp [step, (show 4096 - s - 1 < 0 by omega)]]
    have ha_b : decide (4096 < s + 1) = true := decide_eq_true ha
    go_wp2_with fail
    go_ret2
    exact told_now0 _ _ _ _
  by_cases hd : 400 < d
  · skip
    rw [show step G K V N L row d (4096 - s) = (4096 - s - 1, 2) by simp [step, (show ¬ 4096 - s - 1 < 0 by omega), hd]]
    have ha_b : decide (4096 < s + 1) = false := decide_eq_false ha
    have hd_b : decide (400 < d) = true := decide_eq_true hd
    go_wp2_with fail
    go_ret2
    exact told_now0 _ _ _ _
  by_cases hk0 : K < 0
  · skip
    rw [show step G K V N L row d (4096 - s) = (4096 - s - 1, 9) by simp [step, (show ¬ 4096 - s - 1 < 0 by omega), hd, hk0]]
    have ha_b : decide (4096 < s + 1) = false := decide_eq_false ha
    have hd_b : decide (400 < d) = false := decide_eq_false hd
    have hk0_b : decide (K < 0) = true := decide_eq_true hk0
    go_wp2_with fail
    go_ret2
    exact told_now0 _ _ _ _
  have hk5 : 5 < K := by omega
  rw [show step G K V N L row d (4096 - s) = (4096 - s - 1, 9) by simp [step, (show ¬ 4096 - s - 1 < 0 by omega), hd, hk5]]
  have ha_b : decide (4096 < s + 1) = false := decide_eq_false ha
  have hd_b : decide (400 < d) = false := decide_eq_false hd
  have hk0_b : decide (K < 0) = false := decide_eq_false hk0
  have hk5_b : decide (5 < K) = true := decide_eq_true hk5
  go_wp2_with fail
  go_ret2
  exact told_now0 _ _ _ _

end Go.Proofs.YtnnjflcgcdeidaaDoor.Va
