import Derived.Test.YtijjebogbjaeiaaSc
namespace Go.Proofs.Ytijjebogbjaeiaa.St
open Go.RowKit Go.Proofs.Ytijjebogbjaeiaa.PStoreScript Go.Proofs.YtijjebogbjaeiaaW.PrintWords Go.Proofs.YtijjebogbjaeiaaW.PrintLast Go.Proofs.YtijjebogbjaeiaaW.PrintMore
open Go.ChangeMaps Go.MapKept Go.WideShapes
open Go.WideElems (Fit rd rg rd_key rd_val rg_of)


set_option linter.unusedVariables false
set_option linter.unusedSimpArgs false

/-! ### the map -/
/-- How an element of the map reads: by its block's number. -/
def pe : Value → Option (DataW Unit × List MemPlace)
  | .pointer (some ⟨b, 0, none⟩) => some (.lit (.int .i64 b), [])
  | _ => none
theorem pe_mk (b : Nat) : pe (.pointer (some ⟨b, 0, none⟩)) = some (.lit (.int .i64 b), []) := rfl
theorem pe_inv {v : Value} {z : DataW Unit × List MemPlace} {b : Nat} (h : pe v = some z) (hz : z.1 = .lit (.int .i64 b)) : v = .pointer (some ⟨b, 0, none⟩) := by
  unfold pe at h
  split at h
  · cases h
    simp only [DataW.lit.injEq, Lit.int.injEq, true_and] at hz
    rw [Int.ofNat_inj.1 hz]
  · cases h

def kl (k : ByteArray) : Lit := .string k.data.toList
theorem kl_inj {a b : ByteArray} (h : kl a = kl b) : a = b := by
  simp only [kl, Lit.string.injEq] at h
  obtain ⟨⟨a⟩⟩ := a
  obtain ⟨⟨b⟩⟩ := b
  simp_all
theorem kd9 : Maps.Keyed Try.prog 9 := Maps.string_keyed Try.underlying9
theorem key9 {k : ByteArray} (h : k.size ≤ maxLen) : keyOf Try.prog 9 (.string k) = some (kl k) := Go.WideMaps.keyOf_string_mk Try.underlying9 h

def Cod (l : List (Lit × DataW Unit)) (its : List It) : Prop := l.length ≤ its.length ∧ ∀ p, p ∈ l ↔ ∃ x ∈ its, p = (kl x.k, .lit (.int .i64 (x.b : Nat)))

/-- The block mb is the map of the items. -/
def Mp (w : World) (mb : Nat) (its : List It) : Prop :=
  ∃ es clock, w.heap[mb]? = some (.map es clock) ∧ Fit Try.prog 9 pe es clock ∧ Cod ((es.toList.map (rg Try.prog 9 pe)).foldr DataW.insert []) its

theorem Mp.keep {w w' : World} {mb : Nat} {its : List It} (h : Mp w mb its) (hb : w'.heap[mb]? = w.heap[mb]?) : Mp w' mb its := by
  obtain ⟨es, clock, h1, h2⟩ := h
  exact ⟨es, clock, hb.trans h1, h2⟩

theorem Mp.perm {w : World} {mb : Nat} {its its' : List It} (h : Mp w mb its) (hp : its.Perm its') : Mp w mb its' := by
  obtain ⟨es, clock, h1, h2, h3, h4⟩ := h
  refine ⟨es, clock, h1, h2, by rw [← hp.length_eq]; exact h3, fun p => (h4 p).trans ?_⟩
  constructor
  · rintro ⟨x, hx, e⟩; exact ⟨x, hp.mem_iff.1 hx, e⟩
  · rintro ⟨x, hx, e⟩; exact ⟨x, hp.mem_iff.2 hx, e⟩

theorem Mp.made (w : World) : Mp (w.alloc (.map #[] 0)) w.heap.size [] :=
  ⟨#[], 0, (MapKept.heap_alloc w _).1, ⟨by simp, stamped_empty 0, by simp⟩, Nat.le_refl _, by simp⟩

theorem zero47 (w : World) : (zeroValue 47).run Try.prog w = .ok (.pointer none) w := Try.zeroValue47 w

theorem Mp.look {w : World} {mb : Nat} {its : List It} (h : Mp w mb its) {key : ByteArray} (hk : key.size ≤ maxLen) :
    ((∀ x ∈ its, x.k ≠ key) ∧ (Instr.lookup 50 (.map (some mb)) (.string key) false).run Try.prog w = .ok (.pointer none) w) ∨
    (∃ x ∈ its, x.k = key ∧ (Instr.lookup 50 (.map (some mb)) (.string key) false).run Try.prog w = .ok (.pointer (some ⟨x.b, 0, none⟩)) w) := by
  obtain ⟨es, clock, hb, F, hlen, hmem⟩ := h
  have hin : ∀ p, p ∈ es.toList.map (rg Try.prog 9 pe) ↔ ∃ x ∈ its, p = (kl x.k, .lit (.int .i64 (x.b : Nat))) := fun p => ((sorted_perm _).mem_iff).symm.trans (hmem p)
  rcases Maps.fit_look false kd9 Try.underlying50 (zero47 w) hb F (key9 hk) with ⟨hrun, hno, -⟩ | ⟨e0, y, he, hkey, hrun, hR, -, -⟩
  · refine Or.inl ⟨fun x hx e => ?_, hrun⟩
    obtain ⟨e1, he1, hrg⟩ := List.mem_map.1 ((hin _).2 ⟨x, hx, rfl⟩)
    obtain ⟨y, hy⟩ := F.reads e1 he1
    have h1 := rd_key hy
    rw [rg_of hy] at hrg
    rw [hrg, e] at h1
    exact hno e1 he1 (kd9.inj h1 (key9 hk))
  · obtain ⟨x, hx, hrg⟩ := (hin _).1 (List.mem_map.2 ⟨e0, he, rfl⟩)
    obtain ⟨y', hy'⟩ := F.reads e0 he
    obtain ⟨z, hz, hz2⟩ := rd_val hy'
    have h1 := rd_key hy'
    rw [rg_of hy'] at hrg
    rw [hrg, hkey, key9 hk] at h1
    have h2 : x.k = key := (kl_inj (Option.some.inj h1)).symm
    have hv : e0.val = .pointer (some ⟨x.b, 0, none⟩) := pe_inv hz (by rw [← hz2, hrg])
    exact Or.inr ⟨x, hx, h2, by rw [← hv]; exact hrun⟩

theorem nk_iff {k : ByteArray} (hk : k.size ≤ maxLen) {p : Lit × DataW Unit} : notKey (kl k) p = true ↔ p.1 ≠ kl k := Maps.notKey_iff (kd9.key (key9 hk))

theorem Mp.put {w : World} {mb : Nat} {its : List It} (h : Mp w mb its) {key : ByteArray} {b : Nat} (hk : key.size ≤ maxLen) (hno : ∀ x ∈ its, x.k ≠ key) (hn : its.length < maxLen) (v : ByteArray) :
    ∃ w', (Instr.mapUpdate 50 (.map (some mb)) (.string key) (.pointer (some ⟨b, 0, none⟩))).run Try.prog w = .ok () w' ∧ Mp w' mb (⟨key, v, b⟩ :: its) ∧ w.mapTurned w' mb := by
  obtain ⟨es, clock, hb, F, hlen, hmem⟩ := h
  have hes : es.size ≤ its.length := by rw [length_sorted] at hlen; simpa using hlen
  obtain ⟨es', clock', hrun, F', hput, -⟩ := Maps.fit_store (R' := pe) kd9 Try.underlying50 hb F (Nat.lt_of_le_of_lt hes hn) (fun _ _ _ _ hz => hz) (key9 hk) (pe_mk b)
  have hfil : ((es.toList.map (rg Try.prog 9 pe)).foldr DataW.insert []).filter (notKey (kl key)) = (es.toList.map (rg Try.prog 9 pe)).foldr DataW.insert [] := by
    refine List.filter_eq_self.2 (fun p hp => (nk_iff hk).2 ?_)
    obtain ⟨x, hx, rfl⟩ := (hmem p).1 hp
    exact fun e => hno x hx (kl_inj e)
  refine ⟨_, hrun, ⟨es', clock', heap_setBlock_same hb _, F', ?_, ?_⟩, ⟨es, clock, es', clock', hb, rfl⟩⟩
  · rw [hput]
    unfold putKey
    rw [hfil, length_insert]
    simpa using hlen
  · intro p
    rw [hput]
    unfold putKey
    rw [hfil, mem_insert_iff, hmem p]
    constructor
    · rintro (rfl | ⟨x, hx, rfl⟩)
      · exact ⟨_, List.mem_cons_self, rfl⟩
      · exact ⟨x, List.mem_cons_of_mem _ hx, rfl⟩
    · rintro ⟨x, hx, rfl⟩
      rcases List.mem_cons.1 hx with rfl | hx
      · exact Or.inl rfl
      · exact Or.inr ⟨x, hx, rfl⟩

theorem Mp.drop {w : World} {mb : Nat} {p q : List It} {x : It} (h : Mp w mb (p ++ x :: q)) (hk : x.k.size ≤ maxLen) (hno : ∀ y ∈ p ++ q, y.k ≠ x.k) (ty : TypeId) :
    ∃ w', (Builtin.delete_ #[50, 9] ty #[.map (some mb), .string x.k]).run Try.prog w = .ok (.tuple #[]) w' ∧ Mp w' mb (p ++ q) ∧ w.mapTurned w' mb := by
  obtain ⟨es, clock, hb, F, hlen, hmem⟩ := h
  obtain ⟨es', hrun, F', hle, hdel, -⟩ := Maps.fit_drop (ty := ty) kd9 Try.underlying50 hb F (key9 hk)
  refine ⟨_, hrun, ⟨es', clock, heap_setBlock_same hb _, F', ?_, ?_⟩, ⟨es, clock, es', clock, hb, rfl⟩⟩
  · rw [hdel]
    unfold delKey
    have h1 : (((es.toList.map (rg Try.prog 9 pe)).foldr DataW.insert []).filter (notKey (kl x.k))).length < ((es.toList.map (rg Try.prog 9 pe)).foldr DataW.insert []).length := by
      refine List.length_filter_lt_length_iff_exists.2 ⟨(kl x.k, .lit (.int .i64 (x.b : Nat))), (hmem _).2 ⟨x, by simp, rfl⟩, ?_⟩
      rw [nk_iff hk]
      simp
    have h2 : (p ++ x :: q).length = (p ++ q).length + 1 := by simp; omega
    omega
  · intro y
    rw [hdel]
    unfold delKey
    rw [List.mem_filter, nk_iff hk, hmem y]
    constructor
    · rintro ⟨⟨z, hz, rfl⟩, hne⟩
      refine ⟨z, ?_, rfl⟩
      simp only [List.mem_append, List.mem_cons] at hz ⊢
      rcases hz with hz | rfl | hz
      · exact Or.inl hz
      · exact absurd rfl hne
      · exact Or.inr hz
    · rintro ⟨z, hz, rfl⟩
      refine ⟨⟨z, ?_, rfl⟩, fun e => hno z hz (kl_inj e)⟩
      simp only [List.mem_append, List.mem_cons] at hz ⊢
      rcases hz with hz | hz
      · exact Or.inl hz
      · exact Or.inr (Or.inr hz)
end Go.Proofs.Ytijjebogbjaeiaa.St
