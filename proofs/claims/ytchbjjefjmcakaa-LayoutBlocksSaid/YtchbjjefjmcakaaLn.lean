/- The reference's contracts, and its closure. -/
import Derived.Test.YtchbjjefjmcakaaLm
import Derived.Test.YtchbjjefjmcakaaLl
namespace Go.Proofs.Ytchbjjefjmcakaa.Lb
open Go.RowKit Go.Proofs.Ytchbjjefjmcakaa.PLayoutBlocks Go.Proofs.YtchbjjefjmcakaaW.PrintWords Go.Proofs.YtchbjjefjmcakaaW.PrintLast Go.Proofs.YtchbjjefjmcakaaW.PrintMore
set_option linter.unusedVariables false
set_option linter.unusedSimpArgs false
/-- The two cells are the reference's variables. -/
structure Rfr (p : Pm) (go gs : Nat) : Prop where
  hs : p.hs = ⟨gs, 0, none⟩
  ho : p.ho = ⟨go, 0, none⟩
  es : p.es = 48
theorem Rfr.more {p : Pm} {go gs t : Nat} {W0 : World} (h : Rfr p go gs) : Rfr (p.more t W0) go gs := ⟨h.hs, h.ho, h.es⟩
theorem info48 : (Try.prog.info? 48).map (fun i => (i.zero, i.size, i.bytes)) = some (some (.agg #[.int .i64 0, .string ⟨#[]⟩]), 2, 24) := by kernel_rfl
theorem info48' : ∃ i, Try.prog.info? 48 = some i := (Option.map_eq_some_iff.1 info48).imp fun _ h => h.1
theorem virt_calls (k : Int) (t : S27) (W : World) : Calls Try.prog 18 #[.int .i64 k, tV t] W fun e w' => e = .returned (tV (vt k t)) ∧ Below W.heap.size W w' :=
  provenanceref1_virtual.calls k t.f0 t.f1 t.f2 t.f3 t.f4 _ _ _ _ _ W rfl
theorem opener_calls (t : S27) (W : World) : Calls Try.prog 19 #[tV t] W fun e w' => e = .returned (.bool (opB t)) ∧ Below W.heap.size W w' :=
  provenanceref1_opener.calls t.f0 t.f1 t.f2 t.f3 t.f4 _ W (opens_f t)
theorem Two.rd48 {p : Pm} {As Ao : Option Addr} {cs co : Nat} {st : List Fr} {out : List S27} {W : World} (h : Two p As cs st Ao co out W) (hl : st.length < 1000000) : k48.C W As (st.map f48).length (st.map f48) := by
  rw [List.length_map]
  refine ⟨by simp, by omega, fun hpos => ?_⟩
  rcases h.rS.2 with ⟨_, h0⟩ | ⟨g, cap, cur, e0, _⟩
  · omega
  · injection e0 with e1 _ e3
    subst e1 e3
    refine ⟨_, rfl, fun j q hj => ?_⟩
    rw [List.getElem?_map] at hj
    obtain ⟨y, hy, rfl⟩ := Option.map_eq_some_iff.1 hj
    obtain ⟨_, e, h0, h1⟩ := h.atS hy
    cases e
    refine ⟨[.int .i64 y.1, .string y.2], rfl, k48_mk W (f48 y), fun i u hu => ?_⟩
    rw [add_plain]
    match i, hu with
    | 0, hu => simp at hu; subst hu; exact h0
    | 1, hu => simp at hu; subst hu; exact h1
theorem innermost_calls {p : Pm} {As Ao : Option Addr} {cs co : Nat} {st : List Fr} {out : List S27} {W : World} (h : Two p As cs st Ao co out W) (hl : st.length < 1000000) :
    Calls Try.prog 20 #[.slice As st.length cs] W fun e w' => e = .returned (.int .i64 (encR st.reverse)) ∧ Drawn0 W w' := by
  obtain ⟨k, hk⟩ := inner_f st hl
  have h2 := provenanceref1_innermost.calls k As cs (st.map f48) _ W (h.rd48 hl) (by rw [List.length_map]; exact own_cap h.rS) hk
  rw [List.length_map] at h2
  exact h2
/-- Frames that can be read. -/
def RdG (W : World) (A : Option Addr) (l : List Fr) : Prop := k48.C W A l.length (l.map f48)
theorem RdG.up {W W' : World} {A : Option Addr} {l : List Fr} (h : RdG W A l) (hb : Below W.heap.size W W') : RdG W' A l := Kd.C_below h hb
theorem RdG.at_ {W : World} {A : Option Addr} {l : List Fr} (h : RdG W A l) {i : Nat} {y : Fr} (hi : l[i]? = some y) : ∃ ad, A = some ad ∧ W.cell? (ad.add (i * 2)) = some (.int .i64 y.1) ∧ W.cell? ⟨(ad.add (i * 2)).block, (ad.add (i * 2)).off + 1, none⟩ = some (.string y.2) := by
  have hl := (List.getElem?_eq_some_iff.1 hi).1
  obtain ⟨ad, e, h0, h1⟩ := at_T48 h (i : Int) (by omega) (by omega)
  rw [rd48 hi, Int.toNat_natCast] at h0 h1
  exact ⟨ad, e, h0, h1⟩
theorem blocks_calls {p : Pm} {As Ao : Option Addr} {cs co : Nat} {st : List Fr} {out : List S27} {W : World} (h : Two p As cs st Ao co out W) (hl : st.length < 1000000) :
    Calls Try.prog 21 #[.slice As st.length cs] W fun e w' => (∃ (A : Option Addr) (c : Nat), e = .returned (.slice A (bkR st.reverse).length c) ∧ RdG w' A (bkR st.reverse)) ∧ Below W.heap.size W w' := by
  have h2 := provenanceref1_blocks.calls (st.length + 1) As cs (st.map f48) _ W (h.rd48 hl) (by rw [List.length_map]; exact own_cap h.rS) (blocks_f st hl _ (Nat.lt_succ_self _))
  rw [List.length_map] at h2
  refine h2.mono ?_
  rintro e w' ⟨v, rfl, hR, hb⟩
  obtain ⟨A, c, rfl⟩ := Kd.R_slice hR
  have h3 := (Kd.R_reads' hR).2.2
  rw [List.length_map] at h3 ⊢
  exact ⟨⟨A, c, rfl, h3⟩, hb⟩
theorem ends_calls {p : Pm} {As Ao : Option Addr} {cs co : Nat} {st : List Fr} {out : List S27} {W : World} (h : Two p As cs st Ao co out W) (hl : st.length < 1000000) (t : S27) :
    Calls Try.prog 22 #[.slice As st.length cs, tV t] W fun e w' => e = .returned (.tuple #[.int .i64 ((endsR t st.reverse).1 : Int), .bool (endsR t st.reverse).2]) ∧ Below W.heap.size W w' := by
  obtain ⟨k, hk⟩ := ends_f t st hl
  have h2 := provenanceref1_Ends.calls k As cs (st.map f48) t.f0 t.f1 t.f2 t.f3 t.f4 _ _ W (h.rd48 hl) (by rw [List.length_map]; exact own_cap h.rS) hk
  rw [List.length_map] at h2
  exact h2
end Go.Proofs.Ytchbjjefjmcakaa.Lb
