import Derived.Test.YtijjebogbjaeiaaSh
import Derived.Lib.Builder
namespace Go.Proofs.Ytijjebogbjaeiaa.St
open Go.Shelf Go.RowKit Go.Proofs.Ytijjebogbjaeiaa.PStoreScript Go.Proofs.YtijjebogbjaeiaaW.PrintWords Go.Proofs.YtijjebogbjaeiaaW.PrintLast Go.Proofs.YtijjebogbjaeiaaW.PrintMore
set_option linter.unusedVariables false
set_option linter.unusedSimpArgs false

def frst (rb : Nat) : List It → Nat
  | [] => rb
  | x :: _ => x.b
theorem lnk_frst {L O : Nat → Nat} {rb a : Nat} {r : List It} (h : Lnk L O a (r.map It.b) rb) : O a = frst rb r := by
  cases r with
  | nil => exact h.1
  | cons x r => exact h.1
theorem strs_C {W : World} {B : Nat} {A : Option Addr} {c : Nat} {l : List ByteArray} (h : W.ownsRow B 9 1 (.slice A l.length c) l.length (encs Value.string l)) : Kd.C Kd.string W A l.length l :=
  Kd.C_of_reads (d := ByteArray.empty) (h1 := fun _ => rfl) (own_reads_of' h)

theorem tot_len : ∀ (its : List It), (∀ x ∈ its, x.k.size = 1) → (its.length : Int) ≤ tot its
  | [], _ => by simp [tot]
  | x :: r, h => by
    have h1 := tot_len r (fun y hy => h y (List.mem_cons_of_mem _ hy))
    have h2 := h x (by simp)
    simp only [tot, List.length_cons]
    omega
theorem Sto.len {w : World} {sb rb mb : Nat} {room : Int} {its : List It} (h : Sto w sb rb mb room its) : its.length ≤ 16777216 := by
  have h1 := tot_len its h.one
  have h2 := h.le
  have h3 := h.hi
  omega

theorem run_neq_ptr_other {P : Program} (w : World) {tp te : TypeId} {j : TypeInfo} {a b : Addr} {ca cb : Array Value} {ta tb : TypeId} (hp : P.underlying tp = some (.pointer te)) (hte : P.info? te = some j) (hsz : j.size ≠ 0)
    (hne : a ≠ b) (ha : w.heap[a.block]? = some (.cells ca ta (0, 0))) (hb : w.heap[b.block]? = some (.cells cb tb (0, 0))) :
    (binOp .neq tp (.pointer (some a)) (.pointer (some b))).run P w = .ok (.bool true) w := by
  have h : ∀ d : Nat, (Op.equalIn (d + 1) tp (.pointer (some a)) (.pointer (some b))).run P w = .ok false w := fun d => by
    simp [Op.equalIn, run_underlying hp, sizeOf, typeInfo, hte, hsz, run_sameAddr_other w hne ha hb]
  simp only [binOp]
  simp [Op.equal, Op.maxDepth, h 9999]
theorem info49 : (Try.prog.info? 49).map (fun i => (i.zero, i.size, i.bytes)) = some (some (.agg #[.string ⟨#[]⟩, .string ⟨#[]⟩, .pointer none, .pointer none]), 4, 48) := by kernel_rfl
theorem ptr_same (w : World) (b : Nat) : (binOp .neq 47 (.pointer (some ⟨b, 0, none⟩)) (.pointer (some ⟨b, 0, none⟩))).run Try.prog w = .ok (.bool false) w := by
  obtain ⟨i, hi, -⟩ := Option.map_eq_some_iff.1 info49
  exact Go.Lib.run_neq_ptr_same w _ Try.underlying47 hi
theorem ptr_other (w : World) {a b : Nat} {k v k' v' : ByteArray} {l o l' o' : Nat} (ha : w.heap[a]? = some (ob k v l o)) (hb : w.heap[b]? = some (ob k' v' l' o')) (hne : a ≠ b) :
    (binOp .neq 47 (.pointer (some ⟨a, 0, none⟩)) (.pointer (some ⟨b, 0, none⟩))).run Try.prog w = .ok (.bool true) w := by
  obtain ⟨i, hi, hz⟩ := Option.map_eq_some_iff.1 info49
  simp only [Prod.mk.injEq] at hz
  exact run_neq_ptr_other w Try.underlying47 hi (by rw [hz.2.1]; decide) (by intro e; exact hne (Addr.mk.inj e).1) ha hb

set_option maxHeartbeats 2000000 in
theorem keys_calls (w : World) (sb rb mb : Nat) (room : Int) (its : List It) (h : Sto w sb rb mb room its) :
    Calls Try.prog 14 #[.pointer (some ⟨sb, 0, none⟩)] w fun e w' => ∃ A, e = .returned (.slice A (its.map It.k).length (its.map It.k).length) ∧ Kd.C Kd.string w' A (its.map It.k).length (its.map It.k) ∧ Below w.heap.size w w' := by
  obtain ⟨-, -, s2, -, -⟩ := sob_cells h.hs
  obtain ⟨L, O, h1, h2, hr, hi⟩ := h.hr
  obtain ⟨-, -, -, r3, -, -⟩ := ob_cells hr
  have hO := lnk_frst h1
  rw [hO] at r3
  obtain ⟨f0, hf0⟩ : ∃ f0, f0 = frst rb its := ⟨_, rfl⟩
  rw [← hf0] at r3
  have HF0 := Go.Lib.hid hf0
  have HR := Go.Lib.hid hr
  have HS := Go.Lib.hid h.hs
  have H1 := Go.Lib.hid h1
  have H2 := Go.Lib.hid h2
  have HI := Go.Lib.hid hi
  have HLEN := Go.Lib.hid h.len
  clear h h1 h2 hr hi hO hf0
  go_enter Try.func14, Try.ntmps14
  go_wp2_with fail
  go_loopg [3, 4] (its.length + 1) (fun gk v3 v4 w' => ∃ (dn rest : List It) (f : Nat) (ks : List ByteArray), Hid (ks = dn.map It.k) ∧ Hid (its = dn ++ rest) ∧ Hid (gk = rest.length + 1) ∧ Hid (f = frst rb rest) ∧ v4 = .pointer (some ⟨f, 0, none⟩) ∧ Hid (w'.ownsRow w.heap.size 9 1 v3 ks.length (encs Value.string ks)) ∧ Hid (Below w.heap.size w w'))
  case atStart => exact ⟨[], its, f0, [], Go.Lib.hid rfl, Go.Lib.hid rfl, Go.Lib.hid rfl, HF0, rfl, Go.Lib.hid (own_nil _ _ _ _), Go.Lib.hid (Below.refl _ _)⟩
  case round =>
    obtain ⟨dn, rest, f, ks, hk, hd, hg, hf, rfl, ho, hb⟩ := hrel
    clear s2 r3
    have hs1 := blk_below HS.out hb.out
    obtain ⟨-, -, s2, -, -⟩ := sob_cells hs1
    clear hs1
    obtain ⟨A, c, rfl⟩ := own_slice ho.out
    cases rest with
    | nil =>
      have hdd : its = dn := by have := hd.out; simp at this; exact this
      have HDD := Go.Lib.hid hdd
      have hf' : f = rb := hf.out
      subst hf'
      have hps := ptr_same wr f
      clear hdd
      go_wp2_with fail
      have hcc : ks.length ≤ c := own_cap ho.out
      refine (clip_calls A _ c wr hcc).mono ?_
      rintro e w2 ⟨rfl, rfl⟩
      go_wp2_with fail
      go_ret
      have e1 := hk.out
      have e2 := HDD.out
      rw [← e2] at e1
      rw [← e1]
      exact ⟨A, rfl, strs_C ho.out, hb.out⟩
    | cons x rest =>
      have hne : ¬ x.b = rb := by
        have h3 := H2.out
        rw [hd.out] at h3
        intro e
        exact (List.nodup_cons.1 h3).1 (by simp [e])
      have hxm : x ∈ its := by rw [hd.out]; simp
      have hxw := HI.out x hxm
      have hx := blk_below hxw hb.out
      have hO : O x.b = frst rb rest := by
        have h3 := H1.out
        rw [hd.out, List.map_append, List.map_cons] at h3
        exact lnk_frst (lnk_append _ _ _ _ _ h3).2
      have hf' : f = x.b := hf.out
      subst hf'
      have hpo := ptr_other wr hx (blk_below HR.out hb.out) hne
      obtain ⟨f2, hf2⟩ : ∃ f2, f2 = frst rb rest := ⟨_, rfl⟩
      rw [hO, ← hf2] at hx hxw
      have HF2 := Go.Lib.hid hf2
      obtain ⟨x0, -, -, x3, -, -⟩ := ob_cells hx
      have HX := Go.Lib.hid hxw
      have HNE := Go.Lib.hid hne
      clear hx hxw hO hxm hf2 hne
      go_wp2_with ((with_reducible refine gate_builtin (b := .append) (xs := #[.tmp 22, .tmp 27]) rfl ?_); at_builtin; refine print_append_of (w0 := w) Value.string w.heap.size rfl (.tmp 22) (.tmp 27) 22 9 (.string ⟨#[]⟩) 16 rfl Try.underlying22 info9 rfl (by decide) (.slice A ks.length c) ks x.k rfl (by first | rfl | (go_simp; done) | (go_simp; rfl)) rfl ?q1 ?q2 ?q3 ?q4 ?_; (case q1 => exact ho.out); (case q2 => exact hb.out); (case q3 => exact hb.out.size); (case q4 => have q1_ := HLEN.out; have q2_ := hd.out; have q3_ := hk.out; rw [q2_] at q1_; rw [q3_]; simp at q1_ ⊢; omega); intro v1 w9 ho9 hb9 hg9 hat9; obtain ⟨A9, c9, rfl⟩ := own_slice ho9; have HO9 := Go.Lib.hid ho9; have HB9 := Go.Lib.hid hb9; have x9 := (ob_cells (blk_below HX.out hb9)).2.2.2.1; clear ho9 hb9 hg9 hat9)
      go_roundg (gk - 1)
      case measure => have := hg.out; simp at this; omega
      case rel => exact ⟨dn ++ [x], rest, f2, ks ++ [x.k], Go.Lib.hid (by rw [hk.out]; simp), Go.Lib.hid (by rw [hd.out]; simp), Go.Lib.hid (by have := hg.out; simp at this; omega), HF2, rfl, Go.Lib.hid (by have := HO9.out; rw [List.length_append] at this ⊢; exact this), HB9⟩
end Go.Proofs.Ytijjebogbjaeiaa.St
