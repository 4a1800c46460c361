import Derived.Test.YtlkoihhlbhcfpaaFb
import Derived.Lib.Hide
import Derived.Outline
namespace Go.Proofs.Ytlkoihhlbhcfpaa.Fx
open Go.RowKit Go.Proofs.Ytlkoihhlbhcfpaa.PFixityTree Go.Proofs.YtlkoihhlbhcfpaaW.PrintWords Go.Proofs.YtlkoihhlbhcfpaaW.PrintLast Go.Proofs.YtlkoihhlbhcfpaaW.PrintMore
set_option linter.unusedVariables false
set_option linter.unusedSimpArgs false

def nd (x : Nd) : S35 := ⟨x.op, x.n, x.a, x.b⟩
/-- What Operators answers. -/
def OpPost (T : List S42) (l : List S29) (w : World) (e : Ending) (w' : World) : Prop :=
  (∃ v t, R (hd l) (opl T l) t ∧ e = .returned (.tuple #[v, .bool true]) ∧ Kd.R k35 35 w' w.heap.size (fun _ => True) v ((nodes t 0).map nd)) ∨
  ((∀ t, ¬ R (hd l) (opl T l) t) ∧ e = .returned (.tuple #[.slice none 0 0, .bool false]))

theorem fixOf (T : List S42) (hT : T.length < 1000) (A : Option Addr) (c : Nat) (op : ByteArray) (W : World) (hC : Kd.C k42 W A T.length T) (hc : T.length ≤ c) :
    Calls Try.prog 12 #[.slice A T.length c, .string op] W fun e w' => e = .returned (.tuple #[.int .i64 (fx op T).1, .int .i64 (fx op T).2]) ∧ Below W.heap.size W w' :=
  provenanceref1_FixityOf.calls (T.length + 1) A c T op _ _ W hC hc (fixityOf_f T op hT)

theorem opl_lev {T : List S42} {l : List S29} (h : ∀ x ∈ T, ¬ x.f0.toList = [] ∧ 0 ≤ x.f1 ∧ x.f1 ≤ 2 ∧ 0 ≤ x.f2 ∧ x.f2 ≤ 9) : ∀ r, ∀ x ∈ ops T r, 0 ≤ x.level ∧ x.level ≤ 9 ∧ 0 ≤ x.side ∧ x.side ≤ 2
  | [], x, hx => by simp [ops] at hx
  | [o], x, hx => by simp [ops] at hx
  | o :: i :: r, x, hx => by
    rw [ops] at hx
    rcases List.mem_cons.1 hx with rfl | hx
    · have := fx_ok o.f0 h
      exact ⟨this.2.2.1, this.2.2.2, this.1, this.2.1⟩
    · exact opl_lev (l := l) h r x hx

/-- The operators have names. -/
def Nam (l : List S29) : Prop := ∀ j, 2 * j + 1 < l.length → ¬ (rd_T29 l ((2 * j + 1 : Nat) : Int)).f0.toList = []

theorem sel_sign {L : Int} {l : List O} {j : Nat} {a m s : Int} (h : Sel L l j a m s) (hs : ∀ x ∈ l, 0 ≤ x.side) : (a = -1 ∧ m = 0 ∧ s = -1) ∨ (0 ≤ a ∧ a ≤ 2 * (j : Int) ∧ 0 ≤ s ∧ 1 ≤ m ∧ m ≤ j) := by
  rcases h with ⟨h1, h2, h3, h4⟩ | ⟨p, x, q, rfl, hp, hx, ha, hs', h1, hm, h2, h3, h4, h5⟩
  · exact .inl ⟨h1, h2, h3⟩
  · have := hs x (by simp)
    exact .inr ⟨by omega, by omega, by omega, by omega, by omega⟩
theorem lower_neg {a b : Int} (h : ¬ b < a) : lower a b = a := if_neg h
theorem lower_pos {a b : Int} (h : b < a) : lower a b = b := if_pos h

/-- A node moved. -/
def shiftS (k : Int) (x : S35) : S35 := if x.f0.toList = [] then x else ⟨x.f0, x.f1, x.f2 + k, x.f3 + k⟩
theorem nd_shift (k : Int) (x : Nd) : shiftS k (nd x) = nd (shift k x) := by
  unfold shiftS shift nd
  split <;> rfl
theorem nodes_bd (t : T) : ∀ (base : Int), 0 ≤ base → ∀ y ∈ nodes t base, 0 ≤ y.a ∧ y.a ≤ base + t.size ∧ 0 ≤ y.b ∧ y.b ≤ base + t.size := by
  induction t with
  | leaf n => intro base hb y hy; simp [nodes] at hy; subst hy; simp [T.size]; omega
  | node x a b iha ihb =>
    intro base hb y hy
    simp only [nodes, List.mem_append, List.mem_singleton, nodes_length] at hy
    have ha := size_pos a
    have hb' := size_pos b
    simp only [T.size]
    rcases hy with (hy | hy) | rfl
    · have := iha base hb y hy; omega
    · have := ihb _ (by omega) y hy; omega
    · simp only; omega
theorem R_named {n : Int} {l : List O} {t : T} (h : R n l t) (hn : ∀ x ∈ l, ¬ x.op.toList = []) : Named t := by
  induction h with
  | leaf => trivial
  | left _ _ _ _ _ iha ihb => exact ⟨hn _ (by simp), iha (fun y hy => hn y (by simp [hy])), ihb (fun y hy => hn y (by simp [hy]))⟩
  | right _ _ _ _ _ iha ihb => exact ⟨hn _ (by simp), iha (fun y hy => hn y (by simp [hy])), ihb (fun y hy => hn y (by simp [hy]))⟩
  | none _ _ _ _ _ iha ihb => exact ⟨hn _ (by simp), iha (fun y hy => hn y (by simp [hy])), ihb (fun y hy => hn y (by simp [hy]))⟩
theorem ops_named {T : List S42} {l : List S29} {m : Nat} (hl : l.length = 2 * m + 1) (hn : Nam l) : ∀ x ∈ opl T l, ¬ x.op.toList = [] := by
  intro x hx
  obtain ⟨j, hj, rfl⟩ := List.getElem_of_mem hx
  have h := opl_length (T := T) hl
  have g := opl_get (T := T) hl (j := j) (by omega)
  rw [List.getElem?_eq_getElem hj] at g
  rw [Option.some.inj g]
  exact hn j (by omega)
theorem Nam.take {l : List S29} (h : Nam l) (b : Nat) : Nam (l.take b) := by
  intro j hj
  rw [List.length_take] at hj
  have := h j (by omega)
  unfold rd_T29 at *
  rw [Int.toNat_natCast] at *
  rw [List.getD_eq_getElem?_getD] at *
  rw [List.getElem?_take_of_lt (by omega)]
  exact this
theorem Nam.drop {l : List S29} (h : Nam l) (k : Nat) : Nam (l.drop (2 * k + 2)) := by
  intro j hj
  rw [List.length_drop] at hj
  have := h (k + 1 + j) (by omega)
  unfold rd_T29 at *
  rw [Int.toNat_natCast] at *
  rw [List.getD_eq_getElem?_getD] at *
  rw [List.getElem?_drop, show 2 * k + 2 + (2 * j + 1) = 2 * (k + 1 + j) + 1 by omega]
  exact this

theorem node_rep (x : O) (u v : T) (hv : Named v) (xa xb xs : List S35) (ha : xa = (nodes u 0).map nd) (hb : xb = (nodes v 0).map nd) (hx : xs = xa ++ xb.map (shiftS xa.length)) :
    (nodes (.node x u v) 0).map nd = xs ++ [(⟨x.op, 0, (xs.length : Int) - xb.length - 1, (xs.length : Int) - 1⟩ : S35)] := by
  have hl : (xs.length : Int) = xa.length + xb.length := by rw [hx]; simp
  have hla : xa.length = (nodes u 0).length := by rw [ha]; simp
  have hlb : xb.length = v.size := by rw [hb, List.length_map, nodes_length]
  rw [hl, hx, nodes, List.map_append, List.map_append, ← ha, ← hla, ← nodes_shift _ v 0 hv, hb]
  simp only [List.map_map, List.length_map, nodes_length]
  rw [← hlb, show nd ∘ shift (xa.length : Int) = shiftS (xa.length : Int) ∘ nd from funext fun y => (nd_shift _ y).symm]
  simp only [List.map_cons, List.map_nil, nd]
  rw [show (xa.length : Int) + xb.length - xb.length - 1 = 0 + xa.length - 1 by omega, show (xa.length : Int) + xb.length - 1 = 0 + xa.length + xb.length - 1 by omega]

section
variable {W : World} {base : Nat} {ok : Nat → Prop} {v : Value} {xs : List S35} {g : Nat}
theorem R_put4 (h : Kd.R k35 35 W base ok v xs) (hg : ∀ k, ok k → k ≠ g) (a b c d : Value) : Kd.R k35 35 ((((W.setCell ⟨g, 0, none⟩ a).setCell ⟨g, 1, none⟩ b).setCell ⟨g, 2, none⟩ c).setCell ⟨g, 3, none⟩ d) base ok v xs :=
  Kd.R_far (p := ⟨g, 3, none⟩) (Kd.R_far (p := ⟨g, 2, none⟩) (Kd.R_far (p := ⟨g, 1, none⟩) (Kd.R_far (p := ⟨g, 0, none⟩) h hg a) hg b) hg c) hg d
theorem R_put2 (h : Kd.R k35 35 W base ok v xs) (hg : ∀ k, ok k → k ≠ g) (c d : Value) : Kd.R k35 35 ((W.setCell ⟨g, 2, none⟩ c).setCell ⟨g, 3, none⟩ d) base ok v xs :=
  Kd.R_far (p := ⟨g, 3, none⟩) (Kd.R_far (p := ⟨g, 2, none⟩) h hg c) hg d
end

set_option maxHeartbeats 4000000 in
set_option maxRecDepth 100000 in
theorem operators_one (T : List S42) (l : List S29) (A0 A1 : Option Addr) (c0 c1 : Nat) (w : World) (hl : l.length = 1) (hr1 : Kd.C k29 w A1 l.length l) :
    Calls Try.prog 7 #[.slice A0 T.length c0, .slice A1 l.length c1] w fun e w' => OpPost T l w e w' ∧ Below w.heap.size w w' := by
  have hpo : ∀ v w', Kd.R k35 35 w' w.heap.size (fun _ => True) v [(⟨(⟨#[]⟩ : ByteArray), (rd_T29 l 0).f1, 0, 0⟩ : S35)] → OpPost T l w (.returned (.tuple #[v, .bool true])) w' := by
    intro v w' h
    refine .inl ⟨v, .leaf (hd l), ?_, rfl, h⟩
    rw [show opl T l = [] by unfold opl; rw [List.drop_eq_nil_of_le (by omega)]; rfl]
    exact .leaf _
  have HPO := Go.Lib.hid hpo
  obtain ⟨ad, rfl, x0, x1⟩ := at_T29 hr1 0 (by omega) (by omega)
  rw [show ((0 : Int)).toNat * 2 = 0 from rfl, Addr.add_zero'] at x0 x1
  clear hpo hr1
  have b0 : ((l.length : Int) == 1) = true := beq_iff_eq.mpr (by omega)
  have b1 : (0 : Int) < l.length := by omega
  have b2 : 0 < l.length := by omega
  clear hl
  generalize rd_T29 l 0 = z at *
  go_enter Try.func7, Try.ntmps7
  go_wp2_with (first | ((with_reducible refine gate_dst (N := 31) rfl ?_); refine Kd.R_lit k35 _ 35 ?hg (N := 31) ?hd (xs := ([(⟨(⟨#[]⟩ : ByteArray), z.f1, 0, 0⟩ : S35)] : List (S35))) (inner := [.string (⟨#[]⟩ : ByteArray), .int .i64 (z.f1), .int .i64 0, .int .i64 0]) (ok := fun _ => True) (okp := fun _ => True) ?hr ?hp (fun _ hk => hk) trivial (Below.refl _ _) (Nat.le_refl _) (by simp) ?_; (case hd => rfl); (case hg => rfl); (case hr => first | (go_simp; done) | (go_simp; rfl)); (case hp => exact (Reps.c4 (show Kd.M k35 _ _ _ (⟨(⟨#[]⟩ : ByteArray), z.f1, 0, 0⟩ : S35) [.string (⟨#[]⟩ : ByteArray), .int .i64 (z.f1), .int .i64 0, .int .i64 0] from (k35_mkM _ _ _ (⟨(⟨#[]⟩ : ByteArray), z.f1, 0, 0⟩ : S35) )) (Reps.none _ _))); intro v127 w5 ho6 hb hg_ hnew_; clear hg_ hnew_; have HO := Go.Lib.hid ho6; have HB := Go.Lib.hid hb; clear ho6 hb))
  go_ret2
  exact ⟨HPO.out _ _ HO.out, HB.out⟩

set_option maxHeartbeats 4000000 in
set_option maxRecDepth 100000 in
theorem operators_calls (T : List S42) (hT : T.length < 1000) (hck : ∀ x ∈ T, ¬ x.f0.toList = [] ∧ 0 ≤ x.f1 ∧ x.f1 ≤ 2 ∧ 0 ≤ x.f2 ∧ x.f2 ≤ 9) (N : Nat) : ∀ (m : Nat) (l : List S29) (A0 A1 : Option Addr) (c0 c1 : Nat) (w : World),
    m ≤ N → m ≤ 100 → l.length = 2 * m + 1 → Nam l → Kd.C k42 w A0 T.length T → T.length ≤ c0 → Kd.C k29 w A1 l.length l → l.length ≤ c1 →
    Calls Try.prog 7 #[.slice A0 T.length c0, .slice A1 l.length c1] w fun e w' => OpPost T l w e w' ∧ Below w.heap.size w w' := by
  induction N with
  | zero =>
    intro m l A0 A1 c0 c1 w hN hm hl hnam hr0 hc0 hr1 hc1
    exact operators_one T l A0 A1 c0 c1 w (by omega) hr1
  | succ N ih =>
  intro m l A0 A1 c0 c1 w hN hm hl hnam hr0 hc0 hr1 hc1
  by_cases h1 : m = 0
  · exact operators_one T l A0 A1 c0 c1 w (by omega) hr1
  · have b0 : ((l.length : Int) == 1) = false := beq_eq_false_iff_ne.mpr (by omega)
    have hlev := Go.Lib.hid (opl_lev (l := l) hck (l.drop 1))
    have IH := Go.Lib.hid ih
    have HNAM := Go.Lib.hid hnam
    have HCK := Go.Lib.hid hck
    have HR0 := Go.Lib.hid hr0
    have HR1 := Go.Lib.hid hr1
    have hlc : (l.length : Int) ≤ 201 := by omega
    have HL := Go.Lib.hid hl
    have HT := Go.Lib.hid hT
    have H1 := Go.Lib.hid h1
    clear ih hnam hck hr0 hr1 hl hT h1
    go_enter Try.func7, Try.ntmps7
    go_wp2_with fail
    go_loopg [6, 7] m (fun k v6 v7 wr => ∃ (j i : Nat) (L : Int), Hid (i = 2 * j + 1) ∧ Hid (j + k = m) ∧ Hid (L = minL ((opl T l).take j)) ∧ v6 = .int .i64 L ∧ v7 = .int .i64 i ∧ Hid (Below w.heap.size w wr))
    case atStart => exact ⟨0, 1, 10, Go.Lib.hid rfl, Go.Lib.hid (by omega), Go.Lib.hid rfl, rfl, rfl, Go.Lib.hid (Below.refl _ _)⟩
    case round =>
      obtain ⟨j, i, L, hi, hj, hL, rfl, rfl, hb⟩ := hrel
      by_cases hlt : j < m
      · have hil : i < l.length := by have := hi.out; have := HL.out; omega
        have hil' : (i : Int) < (l.length : Int) := by omega
        obtain ⟨ad, rfl, x0, x1⟩ := at_T29 HR1.out (i : Int) (by omega) hil'
        have g := opl_get (T := T) HL.out hlt
        rw [← hi.out] at g
        have G := Go.Lib.hid g
        have hCb := Go.Lib.hid (Kd.C_below HR0.out hb.out)
        clear g
        replace x0 := pw_cell_below hb.out x0
        replace x1 := pw_cell_below hb.out x1
        generalize rd_T29 l (i : Int) = z at *
        rw [Int.toNat_natCast] at x0 x1
        have HLT := Go.Lib.hid hlt
        clear hlt
        go_wp2_with fail
        refine (fixOf T HT.out A0 c0 z.f0 wr hCb.out hc0).mono ?_
        rintro e w1 ⟨rfl, hb1⟩
        have hb2 := Go.Lib.hid (hb.out.trans (hb1.mono hb.out.size))
        clear hb1
        have hz := Go.Lib.hid (show (mkO T z (rd_T29 l ((2 * j + 2 : Nat) : Int))).level = (fx z.f0 T).2 from rfl)
        generalize (fx z.f0 T).1 = s at *
        generalize (fx z.f0 T).2 = v at *
        have hsn := Go.Lib.hid (minL_snoc ((opl T l).take j) (mkO T z (rd_T29 l ((2 * j + 2 : Nat) : Int))))
        have hnx : Hid (lower L v = minL ((opl T l).take (j + 1))) := Go.Lib.hid (by rw [take_snocO G.out, hsn.out.1, hz.out, ← hL.out])
        by_cases hv : v < L
        · have hv0 : decide (v < L) = true := decide_eq_true hv
          have hlo := lower_pos hv
          have HLO := Go.Lib.hid hlo
          clear hlo hv
          go_wp2_with fail
          go_roundg (gk - 1)
          case measure => have := hj.out; have := HLT.out; omega
          case rel => exact ⟨j + 1, i + 2, v, Go.Lib.hid (by have := hi.out; omega), Go.Lib.hid (by have := hj.out; have := HLT.out; omega), Go.Lib.hid (by rw [← hnx.out, HLO.out]), rfl, by go_num, hb2⟩
        · have hv0 : decide (v < L) = false := decide_eq_false hv
          have hlo := lower_neg hv
          have HLO := Go.Lib.hid hlo
          clear hlo hv
          go_wp2_with fail
          go_roundg (gk - 1)
          case measure => have := hj.out; have := HLT.out; omega
          case rel => exact ⟨j + 1, i + 2, L, Go.Lib.hid (by have := hi.out; omega), Go.Lib.hid (by have := hj.out; have := HLT.out; omega), Go.Lib.hid (by rw [← hnx.out, HLO.out]), rfl, by go_num, hb2⟩
      · have hil' : ¬ (i : Int) < (l.length : Int) := by have := hi.out; have := HL.out; omega
        have hjm : Hid (j = m) := Go.Lib.hid (by have := hj.out; omega)
        clear hlt
        go_wp2_with fail
        have hLm : Hid (L = minL (opl T l)) := Go.Lib.hid (by rw [hL.out, hjm.out, List.take_of_length_le (by rw [opl_length HL.out]; exact Nat.le_refl _)])
        have hmin : Hid (∀ y ∈ opl T l, L ≤ y.level) := Go.Lib.hid (by rw [hLm.out]; exact minL_le)
        have hmem : Hid (∃ y ∈ opl T l, y.level = L) := Go.Lib.hid (by
          rw [hLm.out]
          exact minL_mem (fun h => by have := opl_length (T := T) HL.out; rw [h] at this; have := H1.out; simp at *; omega) (fun x hx => (hlev.out x hx).2.1))
        clear hil' hi hj hjm hL
        go_loopg [10, 11, 12, 13] m (fun k v10 v11 v12 v13 wr => ∃ (j i : Nat) (a mn sd : Int), Hid (i = 2 * j + 1) ∧ Hid (j + k = m) ∧ Hid (Sel L (opl T l) j a mn sd) ∧ v10 = .int .i64 a ∧ v11 = .int .i64 mn ∧ v12 = .int .i64 sd ∧ v13 = .int .i64 i ∧ Hid (Below w.heap.size w wr))
        case atStart => exact ⟨0, 1, -1, 0, -1, Go.Lib.hid rfl, Go.Lib.hid (by omega), Go.Lib.hid (sel_start _ _), rfl, rfl, rfl, rfl, hb⟩
        case round =>
          obtain ⟨j, i, a, mn, sd, hi, hj, hS, rfl, rfl, rfl, rfl, hb⟩ := hrel
          have hsg := sel_sign hS.out (fun x hx => (hlev.out x hx).2.2.1)
          have hmn : 0 ≤ mn := by omega
          have hmn2 : mn ≤ 100 := by have := hj.out; omega
          have ha1 : -1 ≤ a := by omega
          have ha2 : a ≤ 200 := by have := hj.out; omega
          have HSG := Go.Lib.hid hsg
          clear hsg
          by_cases hlt : j < m
          · have hil : i < l.length := by have := hi.out; have := HL.out; omega
            have hil' : (i : Int) < (l.length : Int) := by omega
            obtain ⟨ad, rfl, x0, x1⟩ := at_T29 HR1.out (i : Int) (by omega) hil'
            have g := opl_get (T := T) HL.out hlt
            rw [← hi.out] at g
            have G := Go.Lib.hid g
            have hCb := Go.Lib.hid (Kd.C_below HR0.out hb.out)
            clear g
            replace x0 := pw_cell_below hb.out x0
            replace x1 := pw_cell_below hb.out x1
            generalize rd_T29 l (i : Int) = z at *
            rw [Int.toNat_natCast] at x0 x1
            have HLT := Go.Lib.hid hlt
            clear hlt
            go_wp2_with fail
            refine (fixOf T HT.out A0 c0 z.f0 wr hCb.out hc0).mono ?_
            rintro e w1 ⟨rfl, hb1⟩
            have hb2 := Go.Lib.hid (hb.out.trans (hb1.mono hb.out.size))
            clear hb1
            generalize hyy : mkO T z (rd_T29 l ((2 * j + 2 : Nat) : Int)) = y at G
            have hz := Go.Lib.hid (show y.level = (fx z.f0 T).2 by rw [← hyy]; rfl)
            have hz1 := Go.Lib.hid (show y.side = (fx z.f0 T).1 by rw [← hyy]; rfl)
            clear hyy
            generalize (fx z.f0 T).1 = s at *
            generalize (fx z.f0 T).2 = v at *
            by_cases hv : v = L
            · have hv0 : (v != L) = false := bne_eq_false_iff_eq.mpr hv
              have HV := Go.Lib.hid (show y.level = L by rw [hz.out, hv])
              clear hv
              by_cases hc : 0 ≤ sd
              · have hc0 : decide (0 ≤ sd) = true := decide_eq_true hc
                have HC := Go.Lib.hid hc
                clear hc
                by_cases hs : s = sd
                · have hs0 : (s != sd) = false := bne_eq_false_iff_eq.mpr hs
                  have HS := Go.Lib.hid hs
                  clear hs
                  have ha0 : decide (a < 0) = false := decide_eq_false (by have := HSG.out; have := HC.out; omega)
                  by_cases hl0 : s = 0
                  · have hl00 : (s == 0) = true := beq_iff_eq.mpr hl0
                    have HS0 := Go.Lib.hid hl0
                    clear hl0
                    go_wp2_with fail
                    go_roundg (gk - 1)
                    case measure => have := hj.out; have := HLT.out; omega
                    case rel => exact ⟨j + 1, i + 2, (i : Int), mn + 1, s, Go.Lib.hid (by have := hi.out; omega), Go.Lib.hid (by have := hj.out; have := HLT.out; omega), Go.Lib.hid (by have h := sel_left hS.out G.out HV.out HC.out (by rw [hz1.out, HS0.out]) (by rw [hz1.out, HS.out]); rw [hz1.out] at h; rw [show (i : Int) = 2 * (j : Int) + 1 by have := hi.out; omega]; exact h), rfl, rfl, rfl, by go_num, hb2⟩
                  · have hl00 : (s == 0) = false := beq_eq_false_iff_ne.mpr hl0
                    have HS0 := Go.Lib.hid hl0
                    clear hl0
                    go_wp2_with fail
                    go_roundg (gk - 1)
                    case measure => have := hj.out; have := HLT.out; omega
                    case rel => exact ⟨j + 1, i + 2, a, mn + 1, s, Go.Lib.hid (by have := hi.out; omega), Go.Lib.hid (by have := hj.out; have := HLT.out; omega), Go.Lib.hid (by have h := sel_keep hS.out hmin.out G.out HV.out HC.out (by rw [hz1.out]; exact HS0.out) (by rw [hz1.out, HS.out]); rw [hz1.out] at h; exact h), rfl, rfl, rfl, by go_num, hb2⟩
                · have hs0 : (s != sd) = true := bne_iff_ne.mpr hs
                  have HS := Go.Lib.hid hs
                  clear hs
                  go_wp2_with fail
                  go_ret2
                  exact ⟨.inr ⟨fun t ht => R_no_conf ht (sel_clash hS.out hmin.out G.out HV.out HC.out (by rw [hz1.out]; exact HS.out)), rfl⟩, hb2.out⟩
              · have hc0 : decide (0 ≤ sd) = false := decide_eq_false hc
                have HC := Go.Lib.hid hc
                clear hc
                have ha0 : decide (a < 0) = true := decide_eq_true (by have := HSG.out; have := HC.out; omega)
                go_wp2_with fail
                go_roundg (gk - 1)
                case measure => have := hj.out; have := HLT.out; omega
                case rel => exact ⟨j + 1, i + 2, (i : Int), mn + 1, s, Go.Lib.hid (by have := hi.out; omega), Go.Lib.hid (by have := hj.out; have := HLT.out; omega), Go.Lib.hid (by have h := sel_first hS.out G.out HV.out (by have := HSG.out; have := HC.out; omega); rw [hz1.out] at h; rw [show (i : Int) = 2 * (j : Int) + 1 by have := hi.out; omega]; exact h), rfl, rfl, rfl, by go_num, hb2⟩
            · have hv0 : (v != L) = true := bne_iff_ne.mpr hv
              have HV := Go.Lib.hid (show y.level ≠ L by rw [hz.out]; exact hv)
              clear hv
              go_wp2_with fail
              go_roundg (gk - 1)
              case measure => have := hj.out; have := HLT.out; omega
              case rel => exact ⟨j + 1, i + 2, a, mn, sd, Go.Lib.hid (by have := hi.out; omega), Go.Lib.hid (by have := hj.out; have := HLT.out; omega), Go.Lib.hid (sel_skip hS.out G.out HV.out), rfl, rfl, rfl, by go_num, hb2⟩
          · have hil' : ¬ (i : Int) < (l.length : Int) := by have := hi.out; have := HL.out; omega
            have hjm : Hid (j = m) := Go.Lib.hid (by have := hj.out; omega)
            clear hlt
            have hend : Hid (∃ p x q, opl T l = p ++ x :: q ∧ a = 2 * (p.length : Int) + 1 ∧ 1 ≤ mn ∧ mn ≤ (opl T l).length ∧ (sd = 2 → 2 ≤ mn → Conf (opl T l)) ∧ (¬ (sd = 2 ∧ 2 ≤ mn) → (0 ≤ x.side ∧ x.side ≤ 2) → ∀ n t, R n (opl T l) t ↔ ∃ u v, t = .node x u v ∧ R n p u ∧ R x.n q v)) :=
              Go.Lib.hid (sel_end (by rw [opl_length HL.out, ← hjm.out]; exact hS.out) hmin.out hmem.out)
            by_cases hbad : sd = 2 ∧ 1 < mn
            · obtain ⟨h2, h3⟩ := hbad
              have h20 : (sd == 2) = true := beq_iff_eq.mpr h2
              have H2 := Go.Lib.hid h2
              clear h2
              have h30 : decide (1 < mn) = true := decide_eq_true h3
              go_wp2_with fail
              go_ret2
              obtain ⟨p, x, q, _, _, _, _, h, _⟩ := hend.out
              exact ⟨.inr ⟨fun t ht => R_no_conf ht (h H2.out (by omega)), rfl⟩, hb.out⟩
            · obtain ⟨p, x, q, hpq, ha, _, _, _, hiff0⟩ := hend.out
              have hiff := Go.Lib.hid (hiff0 (fun h => hbad ⟨h.1, by omega⟩) (by have := hlev.out x (by show x ∈ opl T l; rw [hpq]; simp); omega))
              have hpm : p.length < m := by
                have h := opl_length (T := T) HL.out
                rw [hpq] at h
                simp at h
                omega
              obtain ⟨b, hb_, rfl⟩ : ∃ b : Nat, b = 2 * p.length + 1 ∧ a = (b : Int) := ⟨_, rfl, by omega⟩
              -- the parts
              have htk := opl_take (T := T) HL.out hpm
              have hdr := opl_drop2 (T := T) HL.out hpm
              have hpt : (opl T l).take p.length = p := by rw [hpq]; simp
              have hqt : (opl T l).drop (p.length + 1) = q := by rw [hpq]; simp
              have hgx := opl_get (T := T) HL.out hpm
              have hxe : (opl T l)[p.length]? = some x := by rw [hpq]; simp
              rw [hxe] at hgx
              have hxe2 := Option.some.inj hgx
              have hxop : x.op = (rd_T29 l (b : Int)).f0 := by rw [hxe2, hb_]; rfl
              have hxn : x.n = (rd_T29 l ((2 * p.length + 2 : Nat) : Int)).f1 := by rw [hxe2]; rfl
              rw [hpt, ← hb_] at htk
              rw [hqt, ← hxn, show 2 * p.length + 2 = b + 1 by omega] at hdr
              have hbl : b + 1 < l.length := by have := HL.out; omega
              have hbl' : (b : Int) < (l.length : Int) := by omega
              have hP := Go.Lib.hid (IH.out p.length (l.take b) A0 A1 c0 c1 wr (by omega) (by omega) (htk.2.2.trans hb_) (HNAM.out.take b) (Kd.C_below HR0.out hb.out) hc0 (Kd.C_take (Kd.C_below HR1.out hb.out) (by omega)) (by rw [htk.2.2]; omega))
              have hNq := HNAM.out.drop p.length
              rw [show 2 * p.length + 2 = b + 1 by omega] at hNq
              have hQ := Go.Lib.hid (fun (w1 : World) (hb1 : Below w.heap.size w w1) => IH.out (m - p.length - 1) (l.drop (b + 1)) A0 (if c1 = b + 1 then A1 else A1.map (·.add ((b + 1) * 2))) c0 (c1 - (b + 1)) w1 (by omega) (by omega) hdr.2.2 hNq (Kd.C_below HR0.out hb1) hc0 (Kd.C_drop (m := b + 1) (c := c1) (Kd.C_below HR1.out hb1) (by omega) hc1) (by rw [List.length_drop]; omega))
              obtain ⟨i0, hi0, _, hsz, _⟩ := info_parts info29
              have hcut1 := cut_to (P := Try.prog) 23 29 .i64 Try.underlying23 hi0 A1 l.length c1 (b : Int) (by omega) (by omega) hc1
              have hcut2 := cut_from (P := Try.prog) 23 29 .i64 Try.underlying23 hi0 2 hsz A1 l.length c1 ((b : Int) + 1) (by omega) (by omega)
              rw [Int.toNat_natCast] at hcut1
              rw [show ((b : Int) + 1).toNat = b + 1 by omega] at hcut2
              have hl1 : (l.take b).length = b := by rw [List.length_take]; omega
              have hl2 : (l.drop (b + 1)).length = l.length - (b + 1) := List.length_drop
              rw [hl1] at hP
              rw [hl2] at hQ
              obtain ⟨A2, hA2⟩ : ∃ A2, A2 = (if c1 = b + 1 then A1 else A1.map (·.add ((b + 1) * 2))) := ⟨_, rfl⟩
              obtain ⟨c2, hc2⟩ : ∃ c2, c2 = c1 - (b + 1) := ⟨_, rfl⟩
              obtain ⟨n2, hn2⟩ : ∃ n2, n2 = l.length - (b + 1) := ⟨_, rfl⟩
              rw [← hA2, ← hc2, ← hn2] at hcut2
              rw [← hA2, ← hc2, ← hn2] at hQ
              have hps := Go.Lib.hid (show 2 * p.length + 1 ≤ 201 by omega)
              have hql : p.length + q.length + 1 = m := by have h := opl_length (T := T) HL.out; rw [hpq] at h; simp at h; omega
              have HTK := Go.Lib.hid htk
              have HDR := Go.Lib.hid hdr
              have HPQ := Go.Lib.hid hpq
              have HXOP := Go.Lib.hid hxop
              have HNM := Go.Lib.hid (ops_named (T := T) HL.out HNAM.out)
              have hmm := Go.Lib.hid hm
              have HQL := Go.Lib.hid hql
              have h93 : ((sd == 2) = true ∧ decide (1 < mn) = false) ∨ (sd == 2) = false := by
                by_cases h2 : sd = 2
                · exact .inl ⟨beq_iff_eq.mpr h2, decide_eq_false (fun h => hbad ⟨h2, h⟩)⟩
                · exact .inr (beq_eq_false_iff_ne.mpr h2)
              have hA2' := Go.Lib.hid hA2
              have hc2' := Go.Lib.hid hc2
              have hn2' := Go.Lib.hid hn2
              clear htk hdr hpt hqt hgx hxe hxe2 hxop hxn hpq ha hb_ hiff0 hbad hNq hl1 hl2 hA2 hc2 hn2 hql HSG
              rcases h93 with ⟨h20, h30⟩ | h20
              all_goals
                go_wp2_with fail
                refine hP.out.mono ?_
                rintro e w1 ⟨hop1, hb1⟩
                have HB1 := Go.Lib.hid (hb.out.trans (hb1.mono hb.out.size))
                rcases hop1 with ⟨v1, t1, hR1, rfl, hO1⟩ | ⟨hno1, rfl⟩
                · have HO1 := Go.Lib.hid hO1
                  have HT1 := Go.Lib.hid hR1
                  have hbr := Go.Lib.hid (show w.heap.size ≤ wr.heap.size from hb.out.size)
                  clear hO1 hR1 hb1
                  go_wp2_with fail
                  refine (hQ.out _ HB1.out).mono ?_
                  rintro e w2 ⟨hop2, hb2⟩
                  have HB2 := Go.Lib.hid (HB1.out.trans (hb2.mono HB1.out.size))
                  rcases hop2 with ⟨v2, t2, hR2, rfl, hO2⟩ | ⟨hno2, rfl⟩
                  · have HT2 := Go.Lib.hid hR2
                    have HOa := Go.Lib.hid (Kd.R_mono (Kd.R_lower (Kd.R_elder HO1.out hO2 hb2) hbr.out) (fun k hk => (hk.2 : some k ≠ v2.ownBlock)))
                    have HOb := Go.Lib.hid (Kd.R_lower (base' := w.heap.size) (Kd.R_newR hO2 HO1.out) HB1.out.size)
                    have hs1 := Go.Lib.hid (R_size HT1.out)
                    have hs2 := Go.Lib.hid (R_size HT2.out)
                    have HL1 := Go.Lib.hid (show ((nodes t1 0).map nd).length = t1.size by rw [List.length_map, nodes_length])
                    have HL2 := Go.Lib.hid (show ((nodes t2 0).map nd).length = t2.size by rw [List.length_map, nodes_length])
                    clear hR2 hO2 hb2 HO1
                    have HBD := Go.Lib.hid (fun y (hy : y ∈ (nodes t2 0).map nd) => (by
                      obtain ⟨z, hz, rfl⟩ := List.mem_map.1 hy
                      have := nodes_bd t2 0 (by omega) z hz
                      exact ⟨this.1, by have := this.2.1; show z.a ≤ t2.size; omega, this.2.2.1, by have := this.2.2.2; show z.b ≤ t2.size; omega⟩ : 0 ≤ y.f2 ∧ y.f2 ≤ t2.size ∧ 0 ≤ y.f3 ∧ y.f3 ≤ t2.size))
                    obtain ⟨xa, hxa⟩ : ∃ xa, xa = (nodes t1 0).map nd := ⟨_, rfl⟩
                    obtain ⟨xb, hxb⟩ : ∃ xb, xb = (nodes t2 0).map nd := ⟨_, rfl⟩
                    rw [← hxa] at HOa HL1
                    rw [← hxb] at HOb HL2 HBD
                    have HXA := Go.Lib.hid hxa
                    have HXB := Go.Lib.hid hxb
                    clear hxa hxb
                    obtain ⟨Aa, ca, rfl⟩ := Kd.R_slice HOa.out
                    obtain ⟨Ab, cb, rfl⟩ := Kd.R_slice HOb.out
                    have hna : (xa.length : Int) ≤ 201 := by
                      have h1 := hs1.out; have h2 := HL1.out; have h3 := hps.out
                      rw [HTK.out.1] at h1
                      omega
                    have hnb : (xb.length : Int) ≤ 201 := by
                      have h1 := hs2.out; have h2 := HL2.out; have h3 := HQL.out
                      rw [HDR.out.1] at h1
                      have := hmm.out
                      omega
                    go_wp2_with fail
                    go_loopg [16, 121] xb.length (fun k v16 v121 wr => ∃ (j : Nat) (xs : List S35) (As : Option Addr) (cs : Nat), Hid (j + k = xb.length) ∧ v121 = .int .i64 j ∧ v16 = .slice As xs.length cs ∧ Hid (xs = xa ++ (xb.take j).map (shiftS xa.length)) ∧ Hid (Kd.R k35 35 wr w.heap.size (fun k => some k ≠ (Value.slice Ab xb.length cb).ownBlock) (.slice As xs.length cs) xs) ∧ Hid (Kd.R k35 35 wr w.heap.size (fun k => True ∧ some k ≠ (Value.slice As xs.length cs).ownBlock) (.slice Ab xb.length cb) xb) ∧ Hid (Below w.heap.size w wr))
                    case atStart => exact ⟨0, xa, Aa, ca, Go.Lib.hid (by omega), rfl, rfl, Go.Lib.hid (by simp), HOa, HOb, HB2⟩
                    case round =>
                      obtain ⟨j, xs, As, cs, hj, rfl, rfl, hxs, HOx, HOy, hb⟩ := hrel
                      have hxl : (xs.length : Int) ≤ 402 := by rw [hxs.out, List.length_append, List.length_map, List.length_take]; omega
                      by_cases hlt : j < xb.length
                      · have hlt' : (j : Int) < (xb.length : Int) := by omega
                        obtain ⟨ad, rfl, x0, x1, x2, x3⟩ := at_T35 (Kd.R_reads' HOy.out).2.2 (j : Int) (by omega) hlt'
                        have hym : rd_T35 xb (j : Int) ∈ xb := by
                          unfold rd_T35
                          rw [Int.toNat_natCast, List.getD_eq_getElem?_getD, List.getElem?_eq_getElem hlt]
                          exact List.getElem_mem hlt
                        have hys : Hid (xb.take (j + 1) = xb.take j ++ [rd_T35 xb (j : Int)]) := Go.Lib.hid (by
                          unfold rd_T35
                          rw [Int.toNat_natCast, List.getD_eq_getElem?_getD, List.getElem?_eq_getElem hlt, List.take_succ_eq_append_getElem hlt]
                          rfl)
                        obtain ⟨y20, y21, y30, y31⟩ := HBD.out _ hym
                        have hsz2 : (t2.size : Int) ≤ 201 := by have := HL2.out; omega
                        have y22 : (rd_T35 xb (j : Int)).f2 ≤ 201 := by omega
                        have y32 : (rd_T35 xb (j : Int)).f3 ≤ 201 := by omega
                        clear hym y21 y31 hsz2
                        generalize rd_T35 xb (j : Int) = y at *
                        rw [Int.toNat_natCast] at x0 x1 x2 x3
                        have HLT := Go.Lib.hid hlt
                        clear hlt
                        by_cases hop : y.f0.toList = []
                        · have h0 : (y.f0.toList != ([] : List UInt8)) = false := bne_eq_false_iff_eq.mpr hop
                          have h1 : (y.f0.toList == ([] : List UInt8)) = true := beq_iff_eq.mpr hop
                          have HOP := Go.Lib.hid (show shiftS (xa.length : Int) y = y from if_pos hop)
                          clear hop
                          go_wp2_with (first | ((with_reducible refine gate_dst (N := 22) rfl ?_); refine box_event ?hg (N := 22) ?hd (cs := #[.string (⟨#[]⟩ : ByteArray), .int .i64 0, .int .i64 0, .int .i64 0]) (t := 35) ?hr ?_; (case hd => rfl); (case hg => rfl); (case hr => first | (go_simp; done) | (go_simp; rfl)); intro g hg w4 hbox hbw; have HX1 := Go.Lib.hid (Kd.R_below (Kd.R_elderB HOx.out g (Nat.le_of_eq hg.symm)) hbw); have HY1 := Go.Lib.hid (Kd.R_below (Kd.R_elderB HOy.out g (Nat.le_of_eq hg.symm)) hbw); have HBb := Go.Lib.hid (hb.out.trans (hbw.mono hb.out.size)); have BK := Go.Lib.hid hbox; have GE := Go.Lib.hid (show w.heap.size ≤ g by rw [hg]; exact hb.out.size); clear hg hbox hbw; have k0 : w4.cell? ⟨g, 0, none⟩ = some (.string (⟨#[]⟩ : ByteArray)) := (blk_cell BK.out 0).trans rfl; have k1 : w4.cell? ⟨g, 1, none⟩ = some (.int .i64 0) := (blk_cell BK.out 1).trans rfl; have k2 : w4.cell? ⟨g, 2, none⟩ = some (.int .i64 0) := (blk_cell BK.out 2).trans rfl; have k3 : w4.cell? ⟨g, 3, none⟩ = some (.int .i64 0) := (blk_cell BK.out 3).trans rfl; have f0 := blk_frozen BK.out 0; have f1 := blk_frozen BK.out 1; have f2 := blk_frozen BK.out 2; have f3 := blk_frozen BK.out 3) | ((with_reducible refine gate_builtin (b := .append) (xs := #[.tmp 138, .tmp 140]) rfl ?_); at_builtin; refine Kd.R_append k35 (w0 := w) w.heap.size rfl (.tmp 138) (.tmp 140) 24 35 (.agg #[(.string ⟨#[]⟩), (.int .i64 0), (.int .i64 0), (.int .i64 0)]) 40 rfl Try.underlying24 info35 rfl (by decide) (by omega) (.slice As xs.length cs) xs y [.string y.f0, .int .i64 y.f1, .int .i64 y.f2, .int .i64 y.f3] (fun k => some k ≠ (Value.slice (some ad) xb.length cb).ownBlock ∧ k ≠ g) (fun _ => False) rfl (by first | (go_simp; done) | (go_simp; rfl)) ?aP (fun _ hk => hk.elim) ?aF ?aO ?aB ?aS ?aL ?_; (case aP => exact k35_mkM _ _ _ y); (case aF => exact fun k hk => ⟨Kd.fresh' (Kd.R_lt (R_put4 HY1.out (fun _ hk => hk.2) _ _ _ _)) k hk, Kd.freshB (g := g) (blk_set (blk_set (blk_set (blk_set BK.out 0 _) 1 _) 2 _) 3 _) k hk⟩); (case aO => exact R_put4 HX1.out (fun _ hk => hk.2) _ _ _ _); (case aB => exact (below_set (below_set (below_set (below_set HBb.out GE.out) GE.out) GE.out) GE.out)); (case aS => exact below_size (below_set (below_set (below_set (below_set HBb.out GE.out) GE.out) GE.out) GE.out)); (case aL => omega); intro v1 w5 ho hb5 hg5 hat; obtain ⟨As', cs', rfl⟩ := Kd.R_slice ho; have HOx' := Go.Lib.hid ho; have HOy' := Go.Lib.hid (Kd.R_after (ok := fun _ => True) (Kd.R_mono (R_put4 HY1.out (fun _ hk => hk.2) _ _ _ _) (fun k hk => ⟨trivial, hk.1.2⟩)) hg5 hat); have HB5 := Go.Lib.hid hb5; clear ho hb5 hg5 hat))
                          go_roundg (gk - 1)
                          case measure => have := hj.out; have := HLT.out; omega
                          case rel => exact ⟨j + 1, _, As', cs', Go.Lib.hid (by have := hj.out; have := HLT.out; omega), by go_num, by rw [List.length_append]; rfl, Go.Lib.hid (by rw [hys.out, List.map_append, ← List.append_assoc, ← hxs.out, List.map_cons, List.map_nil, HOP.out]), Go.Lib.hid (Kd.R_mono HOx'.out (fun _ hk => hk.1)), HOy', HB5⟩
                        · have h0 : (y.f0.toList != ([] : List UInt8)) = true := bne_iff_ne.mpr hop
                          have h1 : (y.f0.toList == ([] : List UInt8)) = false := beq_eq_false_iff_ne.mpr hop
                          have HOP := Go.Lib.hid (show shiftS (xa.length : Int) y = ⟨y.f0, y.f1, y.f2 + (xa.length : Int), y.f3 + (xa.length : Int)⟩ from if_neg hop)
                          go_wp2_with (first | ((with_reducible refine gate_dst (N := 22) rfl ?_); refine box_event ?hg (N := 22) ?hd (cs := #[.string (⟨#[]⟩ : ByteArray), .int .i64 0, .int .i64 0, .int .i64 0]) (t := 35) ?hr ?_; (case hd => rfl); (case hg => rfl); (case hr => first | (go_simp; done) | (go_simp; rfl)); intro g hg w4 hbox hbw; have HX1 := Go.Lib.hid (Kd.R_below (Kd.R_elderB HOx.out g (Nat.le_of_eq hg.symm)) hbw); have HY1 := Go.Lib.hid (Kd.R_below (Kd.R_elderB HOy.out g (Nat.le_of_eq hg.symm)) hbw); have HBb := Go.Lib.hid (hb.out.trans (hbw.mono hb.out.size)); have BK := Go.Lib.hid hbox; have GE := Go.Lib.hid (show w.heap.size ≤ g by rw [hg]; exact hb.out.size); clear hg hbox hbw; have k0 : w4.cell? ⟨g, 0, none⟩ = some (.string (⟨#[]⟩ : ByteArray)) := (blk_cell BK.out 0).trans rfl; have k1 : w4.cell? ⟨g, 1, none⟩ = some (.int .i64 0) := (blk_cell BK.out 1).trans rfl; have k2 : w4.cell? ⟨g, 2, none⟩ = some (.int .i64 0) := (blk_cell BK.out 2).trans rfl; have k3 : w4.cell? ⟨g, 3, none⟩ = some (.int .i64 0) := (blk_cell BK.out 3).trans rfl; have f0 := blk_frozen BK.out 0; have f1 := blk_frozen BK.out 1; have f2 := blk_frozen BK.out 2; have f3 := blk_frozen BK.out 3; have m2 : ((((((w4.setCell ⟨g, 0, none⟩ (.string y.f0)).setCell ⟨g, 1, none⟩ (.int .i64 y.f1)).setCell ⟨g, 2, none⟩ (.int .i64 y.f2)).setCell ⟨g, 3, none⟩ (.int .i64 y.f3)).setCell ⟨g, 2, none⟩ (.int .i64 (y.f2 + (xa.length : Int)))).setCell ⟨g, 3, none⟩ (.int .i64 (y.f3 + (xa.length : Int)))).cell? ⟨g, 2, none⟩ = some (.int .i64 (y.f2 + (xa.length : Int))) := (blk_cell (blk_set (blk_set (blk_set (blk_set (blk_set (blk_set BK.out 0 _) 1 _) 2 _) 3 _) 2 _) 3 _) 2).trans rfl; have m3 : ((((((w4.setCell ⟨g, 0, none⟩ (.string y.f0)).setCell ⟨g, 1, none⟩ (.int .i64 y.f1)).setCell ⟨g, 2, none⟩ (.int .i64 y.f2)).setCell ⟨g, 3, none⟩ (.int .i64 y.f3)).setCell ⟨g, 2, none⟩ (.int .i64 (y.f2 + (xa.length : Int)))).setCell ⟨g, 3, none⟩ (.int .i64 (y.f3 + (xa.length : Int)))).cell? ⟨g, 3, none⟩ = some (.int .i64 (y.f3 + (xa.length : Int))) := (blk_cell (blk_set (blk_set (blk_set (blk_set (blk_set (blk_set BK.out 0 _) 1 _) 2 _) 3 _) 2 _) 3 _) 3).trans rfl) | ((with_reducible refine gate_builtin (b := .append) (xs := #[.tmp 138, .tmp 140]) rfl ?_); at_builtin; refine Kd.R_append k35 (w0 := w) w.heap.size rfl (.tmp 138) (.tmp 140) 24 35 (.agg #[(.string ⟨#[]⟩), (.int .i64 0), (.int .i64 0), (.int .i64 0)]) 40 rfl Try.underlying24 info35 rfl (by decide) (by omega) (.slice As xs.length cs) xs (⟨y.f0, y.f1, y.f2 + (xa.length : Int), y.f3 + (xa.length : Int)⟩ : S35) [.string y.f0, .int .i64 y.f1, .int .i64 (y.f2 + (xa.length : Int)), .int .i64 (y.f3 + (xa.length : Int))] (fun k => some k ≠ (Value.slice (some ad) xb.length cb).ownBlock ∧ k ≠ g) (fun _ => False) rfl (by first | (go_simp; done) | (go_simp; rfl)) ?aP (fun _ hk => hk.elim) ?aF ?aO ?aB ?aS ?aL ?_; (case aP => exact k35_mkM _ _ _ (⟨y.f0, y.f1, y.f2 + (xa.length : Int), y.f3 + (xa.length : Int)⟩ : S35)); (case aF => exact fun k hk => ⟨Kd.fresh' (Kd.R_lt (R_put2 (R_put4 HY1.out (fun _ hk => hk.2) _ _ _ _) (fun _ hk => hk.2) _ _)) k hk, Kd.freshB (g := g) (blk_set (blk_set (blk_set (blk_set (blk_set (blk_set BK.out 0 _) 1 _) 2 _) 3 _) 2 _) 3 _) k hk⟩); (case aO => exact R_put2 (R_put4 HX1.out (fun _ hk => hk.2) _ _ _ _) (fun _ hk => hk.2) _ _); (case aB => exact (below_set (below_set (below_set (below_set (below_set (below_set HBb.out GE.out) GE.out) GE.out) GE.out) GE.out) GE.out)); (case aS => exact below_size (below_set (below_set (below_set (below_set (below_set (below_set HBb.out GE.out) GE.out) GE.out) GE.out) GE.out) GE.out)); (case aL => omega); intro v1 w5 ho hb5 hg5 hat; obtain ⟨As', cs', rfl⟩ := Kd.R_slice ho; have HOx' := Go.Lib.hid ho; have HOy' := Go.Lib.hid (Kd.R_after (ok := fun _ => True) (Kd.R_mono (R_put2 (R_put4 HY1.out (fun _ hk => hk.2) _ _ _ _) (fun _ hk => hk.2) _ _) (fun k hk => ⟨trivial, hk.1.2⟩)) hg5 hat); have HB5 := Go.Lib.hid hb5; clear ho hb5 hg5 hat))
                          go_roundg (gk - 1)
                          case measure => have := hj.out; have := HLT.out; omega
                          case rel => exact ⟨j + 1, _, As', cs', Go.Lib.hid (by have := hj.out; have := HLT.out; omega), by go_num, by rw [List.length_append]; rfl, Go.Lib.hid (by rw [hys.out, List.map_append, ← List.append_assoc, ← hxs.out, List.map_cons, List.map_nil, HOP.out]), Go.Lib.hid (Kd.R_mono HOx'.out (fun _ hk => hk.1)), HOy', HB5⟩
                      · have hjl : j = xb.length := by have := hj.out; omega
                        have hxs2 := Go.Lib.hid (show xs = xa ++ xb.map (shiftS xa.length) by rw [hxs.out, hjl, List.take_length])
                        have hlt' : ¬ (j : Int) < (xb.length : Int) := by omega
                        have hlt2 : decide ((j : Int) < (xb.length : Int)) = false := decide_eq_false hlt'
                        clear hlt hjl
                        obtain ⟨ad1, rfl, z0, z1⟩ := at_T29 HR1.out (b : Int) (by omega) hbl'
                        replace z0 := pw_cell_below hb.out z0
                        have HZ := Go.Lib.hid (HXOP.out)
                        have hfin := Go.Lib.hid (node_rep x t1 t2 (R_named HT2.out (by rw [HDR.out.1]; intro y hy; exact HNM.out y (by rw [HPQ.out]; simp [hy]))) xa xb xs HXA.out HXB.out hxs2.out)
                        generalize rd_T29 l (b : Int) = z at *
                        rw [Int.toNat_natCast] at z0
                        have hxl2 : (xb.length : Int) ≤ xs.length := by rw [hxs2.out]; simp; omega
                        have hz2 : z.f0 = x.op := HZ.out.symm
                        rw [hz2] at z0
                        clear z1 hz2
                        go_wp2_with ((with_reducible refine gate_builtin (b := .append) (xs := #[.tmp 143, .tmp 159]) rfl ?_); at_builtin; refine Kd.R_append k35 (w0 := w) w.heap.size rfl (.tmp 143) (.tmp 159) 24 35 (.agg #[(.string ⟨#[]⟩), (.int .i64 0), (.int .i64 0), (.int .i64 0)]) 40 rfl Try.underlying24 info35 rfl (by decide) (by omega) (.slice As xs.length cs) xs (⟨x.op, 0, (xs.length : Int) - xb.length - 1, (xs.length : Int) - 1⟩ : S35) [.string x.op, .int .i64 0, .int .i64 ((xs.length : Int) - xb.length - 1), .int .i64 ((xs.length : Int) - 1)] (fun k => some k ≠ (Value.slice Ab xb.length cb).ownBlock) (fun _ => False) rfl (by first | (go_simp; done) | (go_simp; rfl)) ?aP (fun _ hk => hk.elim) ?aF ?aO ?aB ?aS ?aL ?_; (case aP => exact k35_mkM _ _ _ (⟨x.op, 0, (xs.length : Int) - xb.length - 1, (xs.length : Int) - 1⟩ : S35)); (case aF => exact fun k hk => Kd.fresh' (Kd.R_lt HOy.out) k hk); (case aO => exact HOx.out); (case aB => exact hb.out); (case aS => exact below_size hb.out); (case aL => omega); intro v1 w5 ho hb5 hg5 hat; have HO5 := Go.Lib.hid ho; have HB5 := Go.Lib.hid hb5; clear ho hb5 hg5 hat)
                        go_ret2
                        refine ⟨.inl ⟨v1, .node x t1 t2, (hiff.out _ _).2 ⟨t1, t2, rfl, ?_, ?_⟩, rfl, ?_⟩, HB5.out⟩
                        · have := HT1.out
                          rw [HTK.out.1, HTK.out.2.1] at this
                          exact this
                        · have := HT2.out
                          rw [HDR.out.1, HDR.out.2.1] at this
                          exact this
                        · rw [hfin.out]
                          exact Kd.R_mono HO5.out (fun _ _ => trivial)
                  · have HN2 := Go.Lib.hid hno2
                    clear hno2 hb2
                    have hno : Hid (∀ t, ¬ R (hd l) (opl T l) t) := Go.Lib.hid (by
                      intro t ht
                      obtain ⟨u, v, rfl, _, hv⟩ := (hiff.out _ _).1 ht
                      rw [← HDR.out.1, ← HDR.out.2.1] at hv
                      exact HN2.out _ hv)
                    go_wp2_with fail
                    go_ret2
                    exact ⟨.inr ⟨hno.out, rfl⟩, HB2.out⟩
                · have HN1 := Go.Lib.hid hno1
                  clear hno1 hb1
                  go_wp2_with fail
                  refine (hQ.out _ HB1.out).mono ?_
                  rintro e w2 ⟨hop2, hb2⟩
                  have HB2 := Go.Lib.hid (HB1.out.trans (hb2.mono HB1.out.size))
                  have hno : Hid (∀ t, ¬ R (hd l) (opl T l) t) := Go.Lib.hid (by
                    intro t ht
                    obtain ⟨u, v, rfl, hu, _⟩ := (hiff.out _ _).1 ht
                    rw [← HTK.out.1, ← HTK.out.2.1] at hu
                    exact HN1.out _ hu)
                  rcases hop2 with ⟨v2, t2, hR2, rfl, hO2⟩ | ⟨hno2, rfl⟩
                  · clear hO2 hR2 hb2
                    go_wp2_with fail
                    go_ret2
                    exact ⟨.inr ⟨hno.out, rfl⟩, HB2.out⟩
                  · clear hno2 hb2
                    go_wp2_with fail
                    go_ret2
                    exact ⟨.inr ⟨hno.out, rfl⟩, HB2.out⟩
end Go.Proofs.Ytlkoihhlbhcfpaa.Fx
