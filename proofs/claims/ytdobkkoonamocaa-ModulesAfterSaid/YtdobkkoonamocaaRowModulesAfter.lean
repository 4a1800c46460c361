/- For every input the function ModulesAfter returns true, and each argument reads afterwards as it read before. No condition. -/
import Derived.Test.YtdobkkoonamocaaRows
import Derived.Test.YtdobkkoonamocaaMo
import Derived.Test.YtdobkkoonamocaaNj
import Derived.WalkKit
import Derived.ProofKit
import Derived.OpenShut
import Derived.ShutString
import Derived.ChangeOld
import Derived.Below
import Derived.SizedLaws
namespace Go.Proofs.Ytdobkkoonamocaa.modulesAfterRow
open Go.ChangeShapes Go.WideShapes Go.ChangeAt Go.RowKit
open Go.ChangeMaps (open_string shut_string)
open Go.Proofs.Ytdobkkoonamocaa.Mo Go.Proofs.Ytdobkkoonamocaa.PModulesOrdered Go.Proofs.YtdobkkoonamocaaW.PrintWords
set_option linter.unusedVariables false
theorem own : ownKnob Try.prog.godebug = none := by kernel_rfl
theorem by9 : Try.checked.prog.bytesOf 9 = 16 := by kernel_rfl
theorem laidOut : laidOutB Try.prog = true := by kernel_rfl
set_option maxRecDepth 100000 in
theorem lifted (os : Os) (started : os.Started) (H : Type) (enc : TypeId × Value → H) :
    ReturnsInHanded {} Try.checked os 4 .any (Rows.modulesAfterSpec.pre6 enc Try.prog Try.f4 Rows.modulesAfterRow.domain false) (Rows.modulesAfterSpec.post enc Try.prog Try.f4 false true false false) := by
  refine returnsInHanded_of_change_sized (C := Try.checked) own started (by kernel_rfl) Try.func4
    (ChangeSpec.witness6 (enc := enc) (C := Try.checked) false ⟨#[], #[.slice none 0 0, .slice none 0 0, .slice none 0 0], []⟩ 8 (by kernel_rfl) (by kernel_rfl) (by kernel_rfl) (by kernel_rfl)) ?_
  intro W base args ds gs before hval0 hW hcnd hsz0 _
  have hval : ∀ (j : Nat) t v, Try.f4.params[j]? = some t → args[j]? = some v → Value.okWide Try.prog W .any base t v := hval0
  have hW' := hW
  obtain ⟨p, q, hA0, hV, rfl, hfz, hnd⟩ := hW
  have hA : DataW.TrodAll enc Try.prog W 0 (fun _ => true) true Try.f4.params.toList args.toList ds p := hA0
  rw [Try.params4] at hA hval
  obtain ⟨v0, vs0, d0, ds0, p0, q0, hargs, rfl, rfl, h0, r0⟩ := trodAll_cons hA
  obtain ⟨v1, vs1, d1, ds1, p1, q1, rfl, rfl, rfl, h1, r1⟩ := trodAll_cons r0
  obtain ⟨v2, vs2, d2, ds2, p2, q2, rfl, rfl, rfl, h2, r2⟩ := trodAll_cons r1
  obtain ⟨rfl, rfl, rfl⟩ := trodAll_nil r2
  obtain rfl : args = #[v0, v1, v2] := by cases args; simp_all
  obtain ⟨rfl, rfl⟩ := trodVars_none hV
  have k0 := h0
  have k1 := h1
  have k2 := h2
  have lt0 : ∀ x ∈ p0, x.block < W.heap.size := by obtain ⟨m, hm⟩ := k0; exact DataW.trod_lt m _ _ _ hm
  have lt1 : ∀ x ∈ p1, x.block < W.heap.size := by obtain ⟨m, hm⟩ := k1; exact DataW.trod_lt m _ _ _ hm
  have lt2 : ∀ x ∈ p2, x.block < W.heap.size := by obtain ⟨m, hm⟩ := k2; exact DataW.trod_lt m _ _ _ hm
  obtain ⟨a0, len0, cap0, rfl⟩ := okWide_slice Try.underlying22 (hval 0 22 v0 rfl rfl)
  obtain ⟨a1, len1, cap1, rfl⟩ := okWide_slice Try.underlying23 (hval 1 23 v1 rfl rfl)
  obtain ⟨a2, len2, cap2, rfl⟩ := okWide_slice Try.underlying22 (hval 2 22 v2 rfl rfl)
  obtain ⟨m0, hm0⟩ := h0
  obtain ⟨m1, hm1⟩ := h1
  obtain ⟨m2, hm2⟩ := h2
  obtain ⟨T, A0, c0, e0, hc0, hr0⟩ := open_slice_of Kd.string ByteArray.empty Try.underlying22 ce9 (fun n cs x h => open9 n cs x h) hm0
  obtain ⟨l, A1, c1, e1, hc1, hr1⟩ := open_slice_of (Kd.slice 9 Kd.string) [] Try.underlying23 ce22 (fun n cs x h => open22 n cs x h) hm1
  obtain ⟨l2, A2, c2, e2, hc2, hr2⟩ := open_slice_of Kd.string ByteArray.empty Try.underlying22 ce9 (fun n cs x h => open9 n cs x h) hm2
  injection e0 with e00 e01 e02
  injection e1 with e10 e11 e12
  injection e2 with e20 e21 e22
  subst e00 e01 e02 e10 e11 e12 e20 e21 e22
  have hC : l2.length < 8796093021953 := by
    rcases DataW.trod_slice Try.underlying22 hm2 with ⟨q3, _⟩ | ⟨ad, len, cap, elems, rest, n, hk, q3, hd, hlen, hlc, hcm, hel, hi, _, _⟩
    · have q4 : Value.slice a2 l2.length cap2 = .slice none 0 0 := (List.cons.inj q3).1
      injection q4 with _ q5 _
      omega
    · have q4 : Value.slice a2 l2.length cap2 = .slice (some ad) len cap := (List.cons.inj q3).1
      injection q4 with _ q5 _
      injection hd with hd1 hd2
      have h := sized_slice (j := 2) (t := 22) (e := 9) hsz0 rfl (by rw [hd1]; rfl) Try.underlying22
      rw [by9, List.length_map, hel, ← q5] at h
      unfold reachBytes at h
      omega
  clear hA0 hval0 hsz0
  refine (lawA_calls T l2 l a0 a1 a2 cap0 cap1 cap2 W hC hr0 hc0 hr1 hc1 hr2 hc2).mono fun e W' ⟨he, bel⟩ => ?_
  subst he
  exact ⟨_, rfl, _, _, _, [], _, [], hW', trodAll_mk1 (shut_bool Try.underlying4 _), (trodAll_cons_mk (Below.trod laidOut (by kernel_rfl) (of_decide_eq_true (by kernel_rfl)) k0 bel lt0) (trodAll_cons_mk (Below.trod laidOut (by kernel_rfl) (of_decide_eq_true (by kernel_rfl)) k1 bel lt1) (trodAll_cons_mk (Below.trod laidOut (by kernel_rfl) (of_decide_eq_true (by kernel_rfl)) k2 bel lt2) trodAll_mk0))), rfl, bel.frame _, fun h => by cases h⟩
theorem over : Rows.modulesAfterRow.holds Try.pinned (OpenSpec.ofChange Rows.modulesAfterSpec) :=
  OpenClaim.holds_of_wide 4 Try.f4 rfl rfl rfl rfl rfl rfl rfl ⟨rfl, rfl, rfl, rfl, rfl⟩ rfl rfl rfl rfl rfl (by kernel_rfl) Try.func4 (by kernel_rfl)
    (of_decide_eq_true (by kernel_rfl)) (by unfold Func.isWrapper; first | (rw [if_pos (by decide +kernel)]; kernel_rfl) | (rw [if_neg (by decide +kernel)]; exact ⟨rfl, rfl⟩))
    (fun os started H enc _ => lifted os started H enc)
theorem proved : Rows.ModulesAfterSaid := over
#print axioms proved
end Go.Proofs.Ytdobkkoonamocaa.modulesAfterRow
