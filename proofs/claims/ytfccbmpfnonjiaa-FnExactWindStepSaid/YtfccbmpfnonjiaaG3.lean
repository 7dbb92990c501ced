/- The walks of functions, each with its Lean function: laws.FnExactIndexOfTwo, spec.swAll, spec.swArcs, spec.swTogether, spec.swIndex, spec.CountByIndex, impl.allParts, impl.CountByIndex, laws.eqIntS, laws.markIntS. No condition. -/
import Derived.Test.YtfccbmpfnonjiaaG1
import Derived.Test.YtfccbmpfnonjiaaG2
import Derived.Test.YtfccbmpfnonjiaaGSort
import Derived.Test.YtfccbmpfnonjiaaAL31
import Derived.Test.YtfccbmpfnonjiaaProg
import Derived.KernelRfl
namespace Go.Proofs.Ytfccbmpfnonjiaa.AL
open Go Go.RowKit
set_option linter.unusedVariables false
set_option linter.unusedSimpArgs false
set_option maxRecDepth 4096

/-! loop.example/g01126/laws.FnExactIndexOfTwo -/
def F_laws_FnExactIndexOfTwo (fu : Nat) (x0 : Int) (x1 : Int) : Option (Bool) :=
  bd (F_spec_IndexOfTwo fu x0 x1) fun r1 =>
  bd (F_impl_IndexOfTwo fu x0 x1) fun r2 =>
  bd (
    bif (ine r2.1 r1.1) then
      some true
    else
      some (bne' r2.2 r1.2)) fun s15 =>
  bif s15 then
    some false
  else
    some true
theorem F_laws_FnExactIndexOfTwo_w {fu : Nat} {H : AH}  {x0 : Int} {x1 : Int} {r : (Bool)}  (hF : F_laws_FnExactIndexOfTwo fu x0 x1 = some r) :
    ACallT Try.prog 5 [(Value.int .i64 x0), (Value.int .i64 x1)] H (fun u G => AgB (Fr H) H G ∧ u = (Value.bool r) ∧ Sep G (Fr H) []) := by
  refine ACallT.of_body (nt := 29) (rs := [.tmp 4]) Try.func5 rfl rfl rfl rfl ?_
  have A0 : AgB (Fr H) H H := .refl _ _
  have S0 : Sep H (Fr H) [] := .nil
  have hB := Fr.up H
  unfold F_laws_FnExactIndexOfTwo at hF
  refine DWp.seq ?_
  refine DWp.region fun K hK => ?_
  simp [-aBin', -aBin, -aBinI, -aUn, -aNil, -flatV, n_fn, b_add, b_sub, b_mul, b_lt, b_le, b_gt, b_ge, b_eq, b_ne, u_not]
  apply hK
  clear hK K
  simp only [andThen, leaves]
  refine DWp.seq ?_
  obtain ⟨r1, hc1, hF⟩ := bd_some hF
  refine DWp.region fun K hK => ?_
  simp [-aBin', -aBin, -aBinI, -aUn, -aNil, -flatV, n_fn, b_add, b_sub, b_mul, b_lt, b_le, b_gt, b_ge, b_eq, b_ne, u_not]
  refine CallD.t (F_spec_IndexOfTwo_w (fu := fu)  hc1) ?_
  rintro _ G3 ⟨a6, rfl, S7⟩
  have A5 := A0.ext (hB.le A0.1) a6.agree
  have S4 : Sep G3 (Fr H) [] := S0.app a6.agree S7 (fun _ h => h) (hB.le A0.1)
  simp [-aBin', -aBin, -aBinI, -aUn, -aNil, -flatV, n_fn, b_add, b_sub, b_mul, b_lt, b_le, b_gt, b_ge, b_eq, b_ne, u_not, a6.pre]
  apply hK
  clear hK K
  simp only [andThen, leaves]
  refine DWp.seq ?_
  obtain ⟨r2, hc8, hF⟩ := bd_some hF
  refine DWp.region fun K hK => ?_
  simp [-aBin', -aBin, -aBinI, -aUn, -aNil, -flatV, n_fn, b_add, b_sub, b_mul, b_lt, b_le, b_gt, b_ge, b_eq, b_ne, u_not]
  refine CallD.t (F_impl_IndexOfTwo_w (fu := fu)  hc8) ?_
  rintro _ G10 ⟨a13, rfl, S14⟩
  have A12 := A5.ext (hB.le A5.1) a13.agree
  have S11 : Sep G10 (Fr H) [] := S4.app a13.agree S14 (fun _ h => h) (hB.le A5.1)
  simp [-aBin', -aBin, -aBinI, -aUn, -aNil, -flatV, n_fn, b_add, b_sub, b_mul, b_lt, b_le, b_gt, b_ge, b_eq, b_ne, u_not, a13.pre]
  apply hK
  clear hK K
  simp only [andThen, leaves]
  refine DWp.seq ?_
  obtain ⟨s15, hL16, hF⟩ := bd_some hF
  refine DWp.seq (DWp.join (fun env G => Sep G (Fr H) [] ∧ AgB (Fr H) H G ∧ env 28 = some (Value.bool s15)) ?_ ?_)
  ·
    rcases Bool.eq_false_or_eq_true (ine r2.1 r1.1) with hb18 | hb18
    · replace hL16 := cd_t hb18 hL16
      refine DWp.region fun K hK => ?_
      simp [-aBin', -aBin, -aBinI, -aUn, -aNil, -flatV, n_fn, b_add, b_sub, b_mul, b_lt, b_le, b_gt, b_ge, b_eq, b_ne, u_not, hb18]
      apply hK
      clear hK K
      simp only [andThen, leaves]
      have S19 := S11.pick [] (by decide) rfl
      obtain rfl := Option.some.inj hL16
      exact ⟨S19, A12, by simp []⟩
    · replace hL16 := cd_f hb18 hL16
      refine DWp.region fun K hK => ?_
      simp [-aBin', -aBin, -aBinI, -aUn, -aNil, -flatV, n_fn, b_add, b_sub, b_mul, b_lt, b_le, b_gt, b_ge, b_eq, b_ne, u_not, hb18, b_bne un_4]
      apply hK
      clear hK K
      simp only [andThen, leaves]
      have S20 := S11.pick [] (by decide) rfl
      obtain rfl := Option.some.inj hL16
      exact ⟨S20, A12, by simp []⟩
  · rintro env Gj21 ⟨Sj21, Aj21, ej21_28⟩
    refine DWp.cond' (t := s15) (by simp [ej21_28]) (fun hb22 => ?_) (fun hb22 => ?_)
    · replace hF := cd_t hb22 hF
      refine DWp.seq ?_
      refine DWp.region fun K hK => ?_
      simp [-aBin', -aBin, -aBinI, -aUn, -aNil, -flatV, n_fn, b_add, b_sub, b_mul, b_lt, b_le, b_gt, b_ge, b_eq, b_ne, u_not, ej21_28]
      apply hK
      clear hK K
      simp only [andThen, leaves]
      refine DWp.ret ?_
      simp only [andThen, leaves]
      obtain rfl := Option.some.inj hF
      exact ⟨by simp, [(Value.bool false)], by simp [ej21_28], Aj21, rfl, Sj21.pick [] (by decide) rfl⟩
    · replace hF := cd_f hb22 hF
      refine DWp.skip ?_
      simp only [andThen, leaves]
      refine DWp.seq ?_
      refine DWp.region fun K hK => ?_
      simp [-aBin', -aBin, -aBinI, -aUn, -aNil, -flatV, n_fn, b_add, b_sub, b_mul, b_lt, b_le, b_gt, b_ge, b_eq, b_ne, u_not, ej21_28]
      apply hK
      clear hK K
      simp only [andThen, leaves]
      refine DWp.ret ?_
      obtain rfl := Option.some.inj hF
      exact ⟨by simp, [(Value.bool true)], by simp [ej21_28], Aj21, rfl, Sj21.pick [] (by decide) rfl⟩
/-! loop.example/g01126/spec.swAll -/
def F_spec_swAll_L2 (fu : Nat) (self_ : Int → Option (List (List Int))) (k2_0 : Int) (k2_1 : Int) (k2_2 : List (List Int)) (k2_3 : Int) : Nat → List (List Int) → Int → Option (List (List Int) × Int)
  | 0, _, _ => none
  | n + 1, l2_0, y2_20 =>
    bif (ilt y2_20 k2_3) then
      gd (inL k2_2 y2_20) (
      gd ([k2_1].length + (gat [] k2_2 y2_20).length ≤ 4294967296) (
      gd (l2_0.length + 1 ≤ 4294967296) (
      F_spec_swAll_L2 fu self_ k2_0 k2_1 k2_2 k2_3 n (lapp l2_0 [(lapp [k2_1] (gat [] k2_2 y2_20))]) (iadd .i64 y2_20 1))))
    else
      some (l2_0, y2_20)
def F_spec_swAll_L1 (fu : Nat) (self_ : Int → Option (List (List Int))) (k1_0 : Int) : Nat → List (List Int) → Int → Option (List (List Int) × Int)
  | 0, _, _ => none
  | n + 1, l1_0, y1_4 =>
    bif (ile y1_4 k1_0) then
      bd (self_ (isub .i64 k1_0 y1_4)) fun r1 =>
      bd (F_spec_swAll_L2 fu self_ k1_0 y1_4 r1 (llen r1) fu l1_0 0) fun s2 =>
      F_spec_swAll_L1 fu self_ k1_0 n s2.1 (iadd .i64 y1_4 1)
    else
      some (l1_0, y1_4)
def F_spec_swAll : Nat → Int → Option (List (List Int))
  | 0, _ => none
  | fu + 1, x0 =>
    bif (ieq x0 0) then
      some [[]]
    else
      bd (F_spec_swAll_L1 fu (F_spec_swAll fu) x0 fu (@List.nil (List Int)) 1) fun s1 =>
      some s1.1
theorem F_spec_swAll_w : ∀ {fu : Nat} {H : AH}  {x0 : Int} {r : (List (List Int))}  (hF : F_spec_swAll fu x0 = some r),
    ACallT Try.prog 62 [(Value.int .i64 x0)] H (fun u G => AgB (Fr H) H G ∧ ∃ u0 : Value, ∃ C0 : List Value, u = u0 ∧ Sep G (Fr H) [rowsC u0 22 3 C0 (List.map ints r)]) := by
  intro fu
  induction fu with
  | zero => intros; rename_i hF; cases hF
  | succ fu ih =>
  intro H  x0 r  hF
  simp only [F_spec_swAll] at hF
  refine ACallT.of_body (nt := 33) (rs := [.tmp 2]) Try.func62 rfl rfl rfl rfl ?_
  have A0 : AgB (Fr H) H H := .refl _ _
  have S0 : Sep H (Fr H) [] := .nil
  have hB := Fr.up H
  refine DWp.seq ?_
  refine DWp.region fun K hK => ?_
  simp [-aBin', -aBin, -aBinI, -aUn, -aNil, -flatV, n_fn, b_add, b_sub, b_mul, b_lt, b_le, b_gt, b_ge, b_eq, b_ne, u_not]
  apply hK
  clear hK K
  simp only [andThen, leaves]
  refine DWp.seq ?_
  refine DWp.seq ?_
  refine DWp.region fun K hK => ?_
  simp [-aBin', -aBin, -aBinI, -aUn, -aNil, -flatV, n_fn, b_add, b_sub, b_mul, b_lt, b_le, b_gt, b_ge, b_eq, b_ne, u_not]
  apply hK
  clear hK K
  simp only [andThen, leaves]
  refine DWp.cond' (t := (ieq x0 0)) (by simp []) (fun hb1 => ?_) (fun hb1 => ?_)
  · replace hF := cd_t hb1 hF
    refine DWp.seq ?_
    obtain ⟨v2, G3, q4, S5, a7, _, _⟩ := S0.lit1 (P := Try.prog) (t := 46) (hB.le A0.1) el_46 ei_22 rfl (Value.slice none 0 0) (rfl : isTup (Value.slice none 0 0) = false) (rfl : (Value.slice none 0 0).cells = #[(Value.slice none 0 0)])
    have A6 := A0.ext (hB.le A0.1) a7
    replace S5 : Sep G3 (Fr H) [flat1 v2 22 [(Value.slice none 0 0)]] := S5
    refine DWp.region fun K hK => ?_
    simp [-aBin', -aBin, -aBinI, -aUn, -aNil, -flatV, n_fn, b_add, b_sub, b_mul, b_lt, b_le, b_gt, b_ge, b_eq, b_ne, u_not, q4, a7.to_pre, (rfl : isTup (Value.slice none 0 0) = false)]
    apply hK
    clear hK K
    simp only [andThen, leaves]
    refine DWp.ret ?_
    simp only [andThen, leaves]
    have S8 := S5.nilItem (hB.le A6.1) 3
    have S9 : Sep G3 (Fr H) [rowsC v2 22 3 [(Value.slice none 0 0)] (List.map ints [[]]), emp] := S8.rowsOf1 (j := 0) (k := 1) (by decide) rfl rfl
    obtain rfl := Option.some.inj hF
    exact ⟨by simp, [v2], by simp [((S9.rd (k := 0) rfl).tup)], A6, v2, [(Value.slice none 0 0)], rfl, S9.pick [0] (by decide) rfl⟩
  · replace hF := cd_f hb1 hF
    refine DWp.skip ?_
    simp only [andThen, leaves]
    refine DWp.seq ?_
    refine DWp.region fun K hK => ?_
    simp [-aBin', -aBin, -aBinI, -aUn, -aNil, -flatV, n_fn, b_add, b_sub, b_mul, b_lt, b_le, b_gt, b_ge, b_eq, b_ne, u_not]
    apply hK
    clear hK K
    simp only [andThen, leaves]
    refine DWp.seq ?_
    refine DWp.seq ?_
    refine DWp.region fun K hK => ?_
    simp [-aBin', -aBin, -aBinI, -aUn, -aNil, -flatV, n_fn, b_add, b_sub, b_mul, b_lt, b_le, b_gt, b_ge, b_eq, b_ne, u_not]
    apply hK
    clear hK K
    simp only [andThen, leaves]
    refine DWp.block ?_
    have S10 := S0.rowsNil (hB.le A0.1) 22 3
    obtain ⟨s11, hL12, hF⟩ := bd_some hF
    have S13 := S10.pick [0] (by decide) rfl
    refine DWp.loop (fun n env G => ∃ l1_0 : List (List Int), ∃ y1_4 : Int, ∃ w1_0 : Value, ∃ D1_0 : List Value, F_spec_swAll_L1 fu (F_spec_swAll fu) x0 n l1_0 y1_4 = some s11 ∧ Sep G (Fr H) [rowsC w1_0 22 3 D1_0 (List.map ints l1_0)] ∧ AgB (Fr H) H G ∧ env 0 = some (Value.int .i64 x0) ∧ env 3 = some w1_0 ∧ env 4 = some (Value.int .i64 y1_4)) fu ⟨(@List.nil (List Int)), 1, (Value.slice none 0 0), [], hL12, S13, A0, by simp [], by simp [], by simp []⟩ ?_
    rintro n1 env1 G1_ ⟨l1_0, y1_4, w1_0, D1_0, hL12, S1_, A1_, e1_0, e1_3, e1_4⟩
    cases n1 with
    | zero => cases hL12
    | succ n1 =>
      simp only [F_spec_swAll_L1] at hL12
      refine DWp.seq ?_
      refine DWp.seq ?_
      refine DWp.region fun K hK => ?_
      simp [-aBin', -aBin, -aBinI, -aUn, -aNil, -flatV, n_fn, b_add, b_sub, b_mul, b_lt, b_le, b_gt, b_ge, b_eq, b_ne, u_not, e1_0, e1_3, e1_4]
      apply hK
      clear hK K
      simp only [andThen, leaves]
      refine DWp.cond' (t := (ile y1_4 x0)) (by simp [e1_0, e1_3, e1_4]) (fun hb14 => ?_) (fun hb14 => ?_)
      · replace hL12 := cd_t hb14 hL12
        refine DWp.skip ?_
        simp only [andThen, leaves]
        refine DWp.seq ?_
        refine DWp.block ?_
        refine DWp.seq ?_
        obtain ⟨r1, hc15, hL12⟩ := bd_some hL12
        refine DWp.region fun K hK => ?_
        simp [-aBin', -aBin, -aBinI, -aUn, -aNil, -flatV, n_fn, b_add, b_sub, b_mul, b_lt, b_le, b_gt, b_ge, b_eq, b_ne, u_not, e1_0, e1_3, e1_4]
        refine CallD.t (ih  hc15) ?_
        rintro c16_u0 G17 ⟨a20, _, c16_C0, rfl, S21⟩
        have A19 := A1_.ext (hB.le A1_.1) a20.agree
        have S18 : Sep G17 (Fr H) [rowsC w1_0 22 3 D1_0 (List.map ints l1_0), rowsC c16_u0 22 3 c16_C0 (List.map ints r1)] := S1_.app a20.agree S21 (fun _ h => h) (hB.le A1_.1)
        have q22 := (S18.rd (k := 1) rfl).lenG (P := Try.prog) el_46
        simp [-aBin', -aBin, -aBinI, -aUn, -aNil, -flatV, n_fn, b_add, b_sub, b_mul, b_lt, b_le, b_gt, b_ge, b_eq, b_ne, u_not, e1_0, e1_3, e1_4, a20.pre, q22]
        apply hK
        clear hK K
        simp only [andThen, leaves]
        refine DWp.block ?_
        obtain ⟨s23, hL24, hL12⟩ := bd_some hL12
        have S25 := S18.pick [0, 1] (by decide) rfl
        refine DWp.loop (fun n env G => ∃ l2_0 : List (List Int), ∃ y2_20 : Int, ∃ w2_0 : Value, ∃ D2_0 : List Value, F_spec_swAll_L2 fu (F_spec_swAll fu) x0 y1_4 r1 (llen r1) n l2_0 y2_20 = some s23 ∧ Sep G (Fr H) [rowsC w2_0 22 3 D2_0 (List.map ints l2_0), rowsC c16_u0 22 3 c16_C0 (List.map ints r1)] ∧ AgB (Fr H) H G ∧ env 0 = some (Value.int .i64 x0) ∧ env 3 = some w2_0 ∧ env 4 = some (Value.int .i64 y1_4) ∧ env 18 = some c16_u0 ∧ env 19 = some (Value.int .i64 (llen r1)) ∧ env 20 = some (Value.int .i64 y2_20)) fu ⟨l1_0, 0, w1_0, D1_0, hL24, S25, A19, by simp [e1_0, e1_3, e1_4], by simp [e1_0, e1_3, e1_4], by simp [e1_0, e1_3, e1_4], by simp [e1_0, e1_3, e1_4], by simp [e1_0, e1_3, e1_4], by simp [e1_0, e1_3, e1_4]⟩ ?_
        rintro n2 env2 G2_ ⟨l2_0, y2_20, w2_0, D2_0, hL24, S2_, A2_, e2_0, e2_3, e2_4, e2_18, e2_19, e2_20⟩
        cases n2 with
        | zero => cases hL24
        | succ n2 =>
          simp only [F_spec_swAll_L2] at hL24
          refine DWp.seq ?_
          refine DWp.region fun K hK => ?_
          simp [-aBin', -aBin, -aBinI, -aUn, -aNil, -flatV, n_fn, b_add, b_sub, b_mul, b_lt, b_le, b_gt, b_ge, b_eq, b_ne, u_not, e2_0, e2_3, e2_4, e2_18, e2_19, e2_20]
          apply hK
          clear hK K
          simp only [andThen, leaves]
          refine DWp.seq ?_
          refine DWp.cond' (t := (ilt y2_20 (llen r1))) (by simp [e2_0, e2_3, e2_4, e2_18, e2_19, e2_20]) (fun hb26 => ?_) (fun hb26 => ?_)
          · replace hL24 := cd_t hb26 hL24
            refine DWp.skip ?_
            simp only [andThen, leaves]
            refine DWp.seq ?_
            refine DWp.block ?_
            refine DWp.seq ?_
            obtain ⟨g27, hL24⟩ := gd_some hL24
            have q28 := (S2_.rd (k := 1) rfl).idxG (P := Try.prog) (kk := .i64) el_46 sz_22 g27
            have q29 := (S2_.rd (k := 1) rfl).loadG (P := Try.prog) sz_22 ag_22 g27
            refine DWp.region fun K hK => ?_
            simp [-aBin', -aBin, -aBinI, -aUn, -aNil, -flatV, n_fn, b_add, b_sub, b_mul, b_lt, b_le, b_gt, b_ge, b_eq, b_ne, u_not, e2_0, e2_3, e2_4, e2_18, e2_19, e2_20, q28, q29]
            apply hK
            clear hK K
            simp only [andThen, leaves]
            obtain ⟨v30, G31, q32, S33, a35, _, _⟩ := S2_.lit1 (P := Try.prog) (t := 22) (hB.le A2_.1) el_22 ei_3 rfl (Value.int .i64 y1_4) rfl rfl
            have A34 := A2_.ext (hB.le A2_.1) a35
            replace S33 : Sep G31 (Fr H) [rowsC w2_0 22 3 D2_0 (List.map ints l2_0), rowsC c16_u0 22 3 c16_C0 (List.map ints r1), flat1 v30 3 (ints [y1_4])] := S33
            obtain ⟨g37, hL24⟩ := gd_some hL24
            obtain ⟨v43, G38, q39, S40, a42, _, _⟩ := S33.append1 (f := (Value.int .i64)) (xs := [y1_4]) (ys := (gat [] r1 y2_20)) (P := Try.prog) (t := 22) (t2 := 22) (k := 2) rfl (hB.le A34.1) el_22 el_22 ei_3 rfl ((S33.rd (k := 1) rfl).rowAt [] g27) g37
            have A41 := A34.trans a42
            replace S40 : Sep G38 (Fr H) [rowsC w2_0 22 3 D2_0 (List.map ints l2_0), rowsC c16_u0 22 3 c16_C0 (List.map ints r1), flat v43 3 (ints (lapp [y1_4] (gat [] r1 y2_20)))] := S40
            obtain ⟨v44, G45, q46, S47, a49, _, _⟩ := S40.lit1 (P := Try.prog) (t := 46) (hB.le A41.1) el_46 ei_22 rfl v43 ((S40.sl (k := 2) rfl).tup) ((S40.sl (k := 2) rfl).one)
            have A48 := A41.ext (hB.le A41.1) a49
            replace S47 : Sep G45 (Fr H) [rowsC w2_0 22 3 D2_0 (List.map ints l2_0), rowsC c16_u0 22 3 c16_C0 (List.map ints r1), flat v43 3 (ints (lapp [y1_4] (gat [] r1 y2_20))), flat1 v44 22 [v43]] := S47
            obtain ⟨g50, hL24⟩ := gd_some hL24
            obtain ⟨v56, G51, q52, S53, a55, q52t, _⟩ := S47.pushRow (fr := ints) (X := l2_0) (y := (lapp [y1_4] (gat [] r1 y2_20))) (P := Try.prog) (t := 46) (t2 := 46) (j := 0) (k := 2) (by decide) rfl rfl (hB.le A48.1) el_46 el_46 ei_22 rfl (S47.sl1 (k := 3) rfl) g50
            have A54 := A48.trans a55
            replace S53 : Sep G51 (Fr H) [rowsC v56 22 3 (D2_0 ++ [v43]) (List.map ints (lapp l2_0 [(lapp [y1_4] (gat [] r1 y2_20))])), rowsC c16_u0 22 3 c16_C0 (List.map ints r1), emp, flat1 v44 22 [v43]] := S53
            refine DWp.region fun K hK => ?_
            simp [-aBin', -aBin, -aBinI, -aUn, -aNil, -flatV, n_fn, b_add, b_sub, b_mul, b_lt, b_le, b_gt, b_ge, b_eq, b_ne, u_not, e2_0, e2_3, e2_4, e2_18, e2_19, e2_20, q32, a35.to_pre, q39, q46, a49.to_pre, ((S40.sl (k := 2) rfl).tup), q52, q52t]
            apply hK
            clear hK K
            simp only [andThen, leaves]
            refine DWp.region fun K hK => ?_
            simp [-aBin', -aBin, -aBinI, -aUn, -aNil, -flatV, n_fn, b_add, b_sub, b_mul, b_lt, b_le, b_gt, b_ge, b_eq, b_ne, u_not, e2_0, e2_3, e2_4, e2_18, e2_19, e2_20]
            apply hK
            clear hK K
            simp only [andThen, leaves]
            have S57 := S53.pick [0, 1] (by decide) rfl
            exact ⟨n2, Nat.lt_succ_self _, (lapp l2_0 [(lapp [y1_4] (gat [] r1 y2_20))]), (iadd .i64 y2_20 1), v56, (D2_0 ++ [v43]), hL24, S57, A54, by simp [e2_0, e2_3, e2_4, e2_18, e2_19, e2_20], by simp [e2_0, e2_3, e2_4, e2_18, e2_19, e2_20], by simp [e2_0, e2_3, e2_4, e2_18, e2_19, e2_20], by simp [e2_0, e2_3, e2_4, e2_18, e2_19, e2_20], by simp [e2_0, e2_3, e2_4, e2_18, e2_19, e2_20], by simp [e2_0, e2_3, e2_4, e2_18, e2_19, e2_20]⟩
          · replace hL24 := cd_f hb26 hL24
            refine DWp.exit ?_
            simp only [andThen, leaves, if_true, if_false, reduceIte, Nat.reduceEqDiff]
            obtain rfl := Option.some.inj hL24
            try dsimp only at hL12
            refine DWp.region fun K hK => ?_
            simp [-aBin', -aBin, -aBinI, -aUn, -aNil, -flatV, n_fn, b_add, b_sub, b_mul, b_lt, b_le, b_gt, b_ge, b_eq, b_ne, u_not, e2_0, e2_3, e2_4, e2_18, e2_19, e2_20]
            apply hK
            clear hK K
            simp only [andThen, leaves]
            have S58 := S2_.pick [0] (by decide) rfl
            exact ⟨n1, Nat.lt_succ_self _, l2_0, (iadd .i64 y1_4 1), w2_0, D2_0, hL12, S58, A2_, by simp [e2_0, e2_3, e2_4, e2_18, e2_19, e2_20], by simp [e2_0, e2_3, e2_4, e2_18, e2_19, e2_20], by simp [e2_0, e2_3, e2_4, e2_18, e2_19, e2_20]⟩
      · replace hL12 := cd_f hb14 hL12
        refine DWp.exit ?_
        simp only [andThen, leaves, if_true, if_false, reduceIte, Nat.reduceEqDiff]
        obtain rfl := Option.some.inj hL12
        try dsimp only at hF
        refine DWp.seq ?_
        refine DWp.region fun K hK => ?_
        simp [-aBin', -aBin, -aBinI, -aUn, -aNil, -flatV, n_fn, b_add, b_sub, b_mul, b_lt, b_le, b_gt, b_ge, b_eq, b_ne, u_not, e1_0, e1_3, e1_4]
        apply hK
        clear hK K
        simp only [andThen, leaves]
        refine DWp.ret ?_
        obtain rfl := Option.some.inj hF
        exact ⟨by simp, [w1_0], by simp [e1_0, e1_3, e1_4, ((S1_.rd (k := 0) rfl).tup)], A1_, w1_0, D1_0, rfl, S1_.pick [0] (by decide) rfl⟩
/-! loop.example/g01126/spec.swArcs -/
def F_spec_swArcs_L2 (fu : Nat) (k2_0 : Int) (k2_1 : Int) (k2_2 : List Int) (k2_3 : Int) (k2_4 : Int) : Nat → List Int → Int → Option (List Int × Int)
  | 0, _, _ => none
  | n + 1, l2_0, y2_7 =>
    bif (ilt y2_7 k2_1) then
      gd (l2_0.length + [(isub .i64 (isub .i64 (iadd .i64 k2_0 k2_1) 1) y2_7)].length ≤ 4294967296) (
      F_spec_swArcs_L2 fu k2_0 k2_1 k2_2 k2_3 k2_4 n (lapp l2_0 [(isub .i64 (isub .i64 (iadd .i64 k2_0 k2_1) 1) y2_7)]) (iadd .i64 y2_7 1))
    else
      some (l2_0, y2_7)
def F_spec_swArcs_L1 (fu : Nat) (k1_0 : List Int) (k1_1 : Int) : Nat → List Int → Int → Int → Option (List Int × Int × Int)
  | 0, _, _, _ => none
  | n + 1, l1_0, y1_4, y1_10 =>
    bif (ilt y1_10 k1_1) then
      gd (inL k1_0 y1_10) (
      bd (F_spec_swArcs_L2 fu y1_4 (gat 0 k1_0 y1_10) k1_0 k1_1 y1_10 fu l1_0 0) fun s2 =>
      F_spec_swArcs_L1 fu k1_0 k1_1 n s2.1 (iadd .i64 y1_4 (gat 0 k1_0 y1_10)) (iadd .i64 y1_10 1))
    else
      some (l1_0, y1_4, y1_10)
def F_spec_swArcs (fu : Nat) (x0 : List Int) : Option (List Int) :=
  bd (F_spec_swArcs_L1 fu x0 (llen x0) fu (@List.nil Int) 0 0) fun s1 =>
  some s1.1
theorem F_spec_swArcs_w {fu : Nat} {H : AH} {v0 : Value} {x0 : List Int} {r : (List Int)} (hx0 : Sl H v0 (ints x0)) (hF : F_spec_swArcs fu x0 = some r) :
    ACallT Try.prog 83 [v0] H (fun u G => AgB (Fr H) H G ∧ ∃ u0 : Value, u = u0 ∧ Sep G (Fr H) [flat u0 3 (ints r)]) := by
  refine ACallT.of_body (nt := 33) (rs := [.tmp 2]) Try.func83 rfl rfl rfl rfl ?_
  have A0 : AgB (Fr H) H H := .refl _ _
  have S0 : Sep H (Fr H) [] := .nil
  have hB := Fr.up H
  unfold F_spec_swArcs at hF
  refine DWp.seq ?_
  refine DWp.region fun K hK => ?_
  simp [-aBin', -aBin, -aBinI, -aUn, -aNil, -flatV, n_fn, b_add, b_sub, b_mul, b_lt, b_le, b_gt, b_ge, b_eq, b_ne, u_not]
  apply hK
  clear hK K
  simp only [andThen, leaves]
  refine DWp.seq ?_
  refine DWp.region fun K hK => ?_
  simp [-aBin', -aBin, -aBinI, -aUn, -aNil, -flatV, n_fn, b_add, b_sub, b_mul, b_lt, b_le, b_gt, b_ge, b_eq, b_ne, u_not]
  apply hK
  clear hK K
  simp only [andThen, leaves]
  refine DWp.seq ?_
  refine DWp.region fun K hK => ?_
  simp [-aBin', -aBin, -aBinI, -aUn, -aNil, -flatV, n_fn, b_add, b_sub, b_mul, b_lt, b_le, b_gt, b_ge, b_eq, b_ne, u_not]
  apply hK
  clear hK K
  simp only [andThen, leaves]
  refine DWp.seq ?_
  refine DWp.seq ?_
  have q1 := lenG (P := Try.prog) (hx0.agree A0.agree) el_22
  refine DWp.region fun K hK => ?_
  simp [-aBin', -aBin, -aBinI, -aUn, -aNil, -flatV, n_fn, b_add, b_sub, b_mul, b_lt, b_le, b_gt, b_ge, b_eq, b_ne, u_not, q1]
  apply hK
  clear hK K
  simp only [andThen, leaves]
  refine DWp.block ?_
  have S2 := S0.nilItem (hB.le A0.1) 3
  obtain ⟨s3, hL4, hF⟩ := bd_some hF
  have S5 := S2.pick [0] (by decide) rfl
  refine DWp.loop (fun n env G => ∃ l1_0 : List Int, ∃ y1_4 : Int, ∃ y1_10 : Int, ∃ w1_0 : Value, F_spec_swArcs_L1 fu x0 (llen x0) n l1_0 y1_4 y1_10 = some s3 ∧ Sep G (Fr H) [flat w1_0 3 (ints l1_0)] ∧ AgB (Fr H) H G ∧ env 3 = some w1_0 ∧ env 4 = some (Value.int .i64 y1_4) ∧ env 8 = some v0 ∧ env 9 = some (Value.int .i64 (llen x0)) ∧ env 10 = some (Value.int .i64 y1_10)) fu ⟨(@List.nil Int), 0, 0, (Value.slice none 0 0), hL4, S5, A0, by simp [], by simp [], by simp [], by simp [], by simp []⟩ ?_
  rintro n1 env1 G1_ ⟨l1_0, y1_4, y1_10, w1_0, hL4, S1_, A1_, e1_3, e1_4, e1_8, e1_9, e1_10⟩
  cases n1 with
  | zero => cases hL4
  | succ n1 =>
    simp only [F_spec_swArcs_L1] at hL4
    refine DWp.seq ?_
    refine DWp.region fun K hK => ?_
    simp [-aBin', -aBin, -aBinI, -aUn, -aNil, -flatV, n_fn, b_add, b_sub, b_mul, b_lt, b_le, b_gt, b_ge, b_eq, b_ne, u_not, e1_3, e1_4, e1_8, e1_9, e1_10]
    apply hK
    clear hK K
    simp only [andThen, leaves]
    refine DWp.seq ?_
    refine DWp.cond' (t := (ilt y1_10 (llen x0))) (by simp [e1_3, e1_4, e1_8, e1_9, e1_10]) (fun hb6 => ?_) (fun hb6 => ?_)
    · replace hL4 := cd_t hb6 hL4
      refine DWp.skip ?_
      simp only [andThen, leaves]
      refine DWp.seq ?_
      refine DWp.block ?_
      refine DWp.seq ?_
      obtain ⟨g7, hL4⟩ := gd_some hL4
      have q8 := idxG (P := Try.prog) (kk := .i64) (hx0.agree A1_.agree) el_22 sz_3 g7
      have q9 := loadG (P := Try.prog) (hx0.agree A1_.agree) sz_3 ag_3 g7 0
      refine DWp.region fun K hK => ?_
      simp [-aBin', -aBin, -aBinI, -aUn, -aNil, -flatV, n_fn, b_add, b_sub, b_mul, b_lt, b_le, b_gt, b_ge, b_eq, b_ne, u_not, e1_3, e1_4, e1_8, e1_9, e1_10, q8, q9]
      apply hK
      clear hK K
      simp only [andThen, leaves]
      refine DWp.seq ?_
      refine DWp.seq ?_
      refine DWp.region fun K hK => ?_
      simp [-aBin', -aBin, -aBinI, -aUn, -aNil, -flatV, n_fn, b_add, b_sub, b_mul, b_lt, b_le, b_gt, b_ge, b_eq, b_ne, u_not, e1_3, e1_4, e1_8, e1_9, e1_10]
      apply hK
      clear hK K
      simp only [andThen, leaves]
      refine DWp.block ?_
      obtain ⟨s10, hL11, hL4⟩ := bd_some hL4
      have S12 := S1_.pick [0] (by decide) rfl
      refine DWp.loop (fun n env G => ∃ l2_0 : List Int, ∃ y2_7 : Int, ∃ w2_0 : Value, F_spec_swArcs_L2 fu y1_4 (gat 0 x0 y1_10) x0 (llen x0) y1_10 n l2_0 y2_7 = some s10 ∧ Sep G (Fr H) [flat w2_0 3 (ints l2_0)] ∧ AgB (Fr H) H G ∧ env 3 = some w2_0 ∧ env 4 = some (Value.int .i64 y1_4) ∧ env 6 = some (Value.int .i64 (gat 0 x0 y1_10)) ∧ env 7 = some (Value.int .i64 y2_7) ∧ env 8 = some v0 ∧ env 9 = some (Value.int .i64 (llen x0)) ∧ env 10 = some (Value.int .i64 y1_10)) fu ⟨l1_0, 0, w1_0, hL11, S12, A1_, by simp [e1_3, e1_4, e1_8, e1_9, e1_10], by simp [e1_3, e1_4, e1_8, e1_9, e1_10], by simp [e1_3, e1_4, e1_8, e1_9, e1_10], by simp [e1_3, e1_4, e1_8, e1_9, e1_10], by simp [e1_3, e1_4, e1_8, e1_9, e1_10], by simp [e1_3, e1_4, e1_8, e1_9, e1_10], by simp [e1_3, e1_4, e1_8, e1_9, e1_10]⟩ ?_
      rintro n2 env2 G2_ ⟨l2_0, y2_7, w2_0, hL11, S2_, A2_, e2_3, e2_4, e2_6, e2_7, e2_8, e2_9, e2_10⟩
      cases n2 with
      | zero => cases hL11
      | succ n2 =>
        simp only [F_spec_swArcs_L2] at hL11
        refine DWp.seq ?_
        refine DWp.seq ?_
        refine DWp.region fun K hK => ?_
        simp [-aBin', -aBin, -aBinI, -aUn, -aNil, -flatV, n_fn, b_add, b_sub, b_mul, b_lt, b_le, b_gt, b_ge, b_eq, b_ne, u_not, e2_3, e2_4, e2_6, e2_7, e2_8, e2_9, e2_10]
        apply hK
        clear hK K
        simp only [andThen, leaves]
        refine DWp.cond' (t := (ilt y2_7 (gat 0 x0 y1_10))) (by simp [e2_3, e2_4, e2_6, e2_7, e2_8, e2_9, e2_10]) (fun hb13 => ?_) (fun hb13 => ?_)
        · replace hL11 := cd_t hb13 hL11
          refine DWp.skip ?_
          simp only [andThen, leaves]
          refine DWp.seq ?_
          refine DWp.block ?_
          obtain ⟨v14, G15, q16, S17, a19, _, _⟩ := S2_.lit1 (P := Try.prog) (t := 22) (hB.le A2_.1) el_22 ei_3 rfl (Value.int .i64 (isub .i64 (isub .i64 (iadd .i64 y1_4 (gat 0 x0 y1_10)) 1) y2_7)) rfl rfl
          have A18 := A2_.ext (hB.le A2_.1) a19
          replace S17 : Sep G15 (Fr H) [flat w2_0 3 (ints l2_0), flat1 v14 3 (ints [(isub .i64 (isub .i64 (iadd .i64 y1_4 (gat 0 x0 y1_10)) 1) y2_7)])] := S17
          obtain ⟨g21, hL11⟩ := gd_some hL11
          obtain ⟨v27, G22, q23, S24, a26, _, _⟩ := S17.appendG (f := (Value.int .i64)) (xs := l2_0) (ys := [(isub .i64 (isub .i64 (iadd .i64 y1_4 (gat 0 x0 y1_10)) 1) y2_7)]) (P := Try.prog) (t := 22) (t2 := 22) (k := 0) rfl (hB.le A18.1) el_22 el_22 ei_3 rfl (S17.sl1 (k := 1) rfl) g21
          have A25 := A18.trans a26
          replace S24 : Sep G22 (Fr H) [flat v27 3 (ints (lapp l2_0 [(isub .i64 (isub .i64 (iadd .i64 y1_4 (gat 0 x0 y1_10)) 1) y2_7)])), flat1 v14 3 (ints [(isub .i64 (isub .i64 (iadd .i64 y1_4 (gat 0 x0 y1_10)) 1) y2_7)])] := S24
          refine DWp.region fun K hK => ?_
          simp [-aBin', -aBin, -aBinI, -aUn, -aNil, -flatV, n_fn, b_add, b_sub, b_mul, b_lt, b_le, b_gt, b_ge, b_eq, b_ne, u_not, e2_3, e2_4, e2_6, e2_7, e2_8, e2_9, e2_10, q16, a19.to_pre, q23]
          apply hK
          clear hK K
          simp only [andThen, leaves]
          refine DWp.region fun K hK => ?_
          simp [-aBin', -aBin, -aBinI, -aUn, -aNil, -flatV, n_fn, b_add, b_sub, b_mul, b_lt, b_le, b_gt, b_ge, b_eq, b_ne, u_not, e2_3, e2_4, e2_6, e2_7, e2_8, e2_9, e2_10]
          apply hK
          clear hK K
          simp only [andThen, leaves]
          have S28 := S24.pick [0] (by decide) rfl
          exact ⟨n2, Nat.lt_succ_self _, (lapp l2_0 [(isub .i64 (isub .i64 (iadd .i64 y1_4 (gat 0 x0 y1_10)) 1) y2_7)]), (iadd .i64 y2_7 1), v27, hL11, S28, A25, by simp [e2_3, e2_4, e2_6, e2_7, e2_8, e2_9, e2_10], by simp [e2_3, e2_4, e2_6, e2_7, e2_8, e2_9, e2_10], by simp [e2_3, e2_4, e2_6, e2_7, e2_8, e2_9, e2_10], by simp [e2_3, e2_4, e2_6, e2_7, e2_8, e2_9, e2_10], by simp [e2_3, e2_4, e2_6, e2_7, e2_8, e2_9, e2_10], by simp [e2_3, e2_4, e2_6, e2_7, e2_8, e2_9, e2_10], by simp [e2_3, e2_4, e2_6, e2_7, e2_8, e2_9, e2_10]⟩
        · replace hL11 := cd_f hb13 hL11
          refine DWp.exit ?_
          simp only [andThen, leaves, if_true, if_false, reduceIte, Nat.reduceEqDiff]
          obtain rfl := Option.some.inj hL11
          try dsimp only at hL4
          refine DWp.region fun K hK => ?_
          simp [-aBin', -aBin, -aBinI, -aUn, -aNil, -flatV, n_fn, b_add, b_sub, b_mul, b_lt, b_le, b_gt, b_ge, b_eq, b_ne, u_not, e2_3, e2_4, e2_6, e2_7, e2_8, e2_9, e2_10]
          apply hK
          clear hK K
          simp only [andThen, leaves]
          refine DWp.region fun K hK => ?_
          simp [-aBin', -aBin, -aBinI, -aUn, -aNil, -flatV, n_fn, b_add, b_sub, b_mul, b_lt, b_le, b_gt, b_ge, b_eq, b_ne, u_not, e2_3, e2_4, e2_6, e2_7, e2_8, e2_9, e2_10]
          apply hK
          clear hK K
          simp only [andThen, leaves]
          have S29 := S2_.pick [0] (by decide) rfl
          exact ⟨n1, Nat.lt_succ_self _, l2_0, (iadd .i64 y1_4 (gat 0 x0 y1_10)), (iadd .i64 y1_10 1), w2_0, hL4, S29, A2_, by simp [e2_3, e2_4, e2_6, e2_7, e2_8, e2_9, e2_10], by simp [e2_3, e2_4, e2_6, e2_7, e2_8, e2_9, e2_10], by simp [e2_3, e2_4, e2_6, e2_7, e2_8, e2_9, e2_10], by simp [e2_3, e2_4, e2_6, e2_7, e2_8, e2_9, e2_10], by simp [e2_3, e2_4, e2_6, e2_7, e2_8, e2_9, e2_10]⟩
    · replace hL4 := cd_f hb6 hL4
      refine DWp.exit ?_
      simp only [andThen, leaves, if_true, if_false, reduceIte, Nat.reduceEqDiff]
      obtain rfl := Option.some.inj hL4
      try dsimp only at hF
      refine DWp.seq ?_
      refine DWp.region fun K hK => ?_
      simp [-aBin', -aBin, -aBinI, -aUn, -aNil, -flatV, n_fn, b_add, b_sub, b_mul, b_lt, b_le, b_gt, b_ge, b_eq, b_ne, u_not, e1_3, e1_4, e1_8, e1_9, e1_10]
      apply hK
      clear hK K
      simp only [andThen, leaves]
      refine DWp.ret ?_
      obtain rfl := Option.some.inj hF
      exact ⟨by simp, [w1_0], by simp [e1_3, e1_4, e1_8, e1_9, e1_10, ((S1_.sl (k := 0) rfl).tup)], A1_, w1_0, rfl, S1_.pick [0] (by decide) rfl⟩
/-! loop.example/g01126/spec.swTogether -/
def F_spec_swTogether_L3 (fu : Nat) (k3_0 : Bool) (k3_1 : List Int) (k3_2 : List Int) (k3_3 : List (List Int)) (k3_4 : Int) (k3_5 : Int) (k3_6 : Int) (k3_7 : Int) : Nat → Int → Int → Option (Int × Int)
  | 0, _, _ => none
  | n + 1, y3_10, y3_42 =>
    bif (ilt y3_42 k3_6) then
      gd (¬ (y3_42 < 0)) (
      bif (ieq (irem (ishr .i64 y3_10 y3_42) 2) 1) then
        gd (inL k3_1 y3_42) (
        gd (¬ ((gat 0 k3_1 y3_42) < 0)) (
        gd (inL k3_2 y3_42) (
        gd (¬ ((gat 0 k3_2 y3_42) < 0)) (
        F_spec_swTogether_L3 fu k3_0 k3_1 k3_2 k3_3 k3_4 k3_5 k3_6 k3_7 n (ior .i64 y3_10 (ior .i64 (ishl .i64 1 (gat 0 k3_1 y3_42)) (ishl .i64 1 (gat 0 k3_2 y3_42)))) (iadd .i64 y3_42 1)))))
      else
        F_spec_swTogether_L3 fu k3_0 k3_1 k3_2 k3_3 k3_4 k3_5 k3_6 k3_7 n y3_10 (iadd .i64 y3_42 1))
    else
      some (y3_10, y3_42)
def F_spec_swTogether_L4 (fu : Nat) (k4_0 : Bool) (k4_1 : List Int) (k4_2 : List Int) (k4_3 : List (List Int)) (k4_4 : Int) (k4_5 : Int) (k4_6 : Int) (k4_7 : Int) : Nat → List Int → Bool → Int → Option (List Int × Bool × Int)
  | 0, _, _, _ => none
  | n + 1, l4_3, y4_14, y4_69 =>
    bif (ilt y4_69 k4_6) then
      gd (¬ (y4_69 < 0)) (
      bif (ieq (irem (ishr .i64 k4_5 y4_69) 2) 1) then
        gd (l4_3.length + [y4_69].length ≤ 4294967296) (
        bif y4_14 then
          F_spec_swTogether_L4 fu k4_0 k4_1 k4_2 k4_3 k4_4 k4_5 k4_6 k4_7 n (lapp l4_3 [y4_69]) true (iadd .i64 y4_69 1)
        else
          gd (inL k4_1 y4_69) (
          bif (ieq (gat 0 k4_1 y4_69) y4_69) then
            F_spec_swTogether_L4 fu k4_0 k4_1 k4_2 k4_3 k4_4 k4_5 k4_6 k4_7 n (lapp l4_3 [y4_69]) true (iadd .i64 y4_69 1)
          else
            gd (inL k4_2 y4_69) (
            F_spec_swTogether_L4 fu k4_0 k4_1 k4_2 k4_3 k4_4 k4_5 k4_6 k4_7 n (lapp l4_3 [y4_69]) (ieq (gat 0 k4_2 y4_69) y4_69) (iadd .i64 y4_69 1))))
      else
        F_spec_swTogether_L4 fu k4_0 k4_1 k4_2 k4_3 k4_4 k4_5 k4_6 k4_7 n l4_3 y4_14 (iadd .i64 y4_69 1))
    else
      some (l4_3, y4_14, y4_69)
def F_spec_swTogether_L2 (fu : Nat) (k2_0 : Bool) (k2_1 : List Int) (k2_2 : List Int) (k2_3 : List (List Int)) (k2_4 : Int) (k2_5 : Int) (k2_6 : Int) : Nat → Int → Int → Option (Int × Int)
  | 0, _, _ => none
  | n + 1, y2_10, y2_11 =>
    bif (ilt y2_11 (llen k2_1)) then
      bd (F_spec_swTogether_L3 fu k2_0 k2_1 k2_2 k2_3 k2_4 y2_11 k2_5 k2_6 fu y2_10 0) fun s3 =>
      F_spec_swTogether_L2 fu k2_0 k2_1 k2_2 k2_3 k2_4 k2_5 k2_6 n s3.1 (iadd .i64 y2_11 1)
    else
      some (y2_10, y2_11)
def F_spec_swTogether_L1 (fu : Nat) (k1_0 : Bool) (k1_1 : List Int) (k1_2 : List Int) (k1_3 : Int) : Nat → List (List Int) → Int → Int → Option (List (List Int) × Int × Int)
  | 0, _, _, _ => none
  | n + 1, l1_2, y1_8, y1_24 =>
    bif (ilt y1_24 k1_3) then
      gd (¬ (y1_24 < 0)) (
      bif (ieq (irem (ishr .i64 y1_8 y1_24) 2) 1) then
        F_spec_swTogether_L1 fu k1_0 k1_1 k1_2 k1_3 n l1_2 y1_8 (iadd .i64 y1_24 1)
      else
        gd (¬ (y1_24 < 0)) (
        bd (F_spec_swTogether_L2 fu k1_0 k1_1 k1_2 l1_2 y1_8 k1_3 y1_24 fu (ishl .i64 1 y1_24) 0) fun s2 =>
        bd (F_spec_swTogether_L4 fu k1_0 k1_1 k1_2 l1_2 (ior .i64 y1_8 s2.1) s2.1 k1_3 y1_24 fu (@List.nil Int) false 0) fun s4 =>
        bif (beq' s4.2.1 k1_0) then
          gd (l1_2.length + 1 ≤ 4294967296) (
          F_spec_swTogether_L1 fu k1_0 k1_1 k1_2 k1_3 n (lapp l1_2 [s4.1]) (ior .i64 y1_8 s2.1) (iadd .i64 y1_24 1))
        else
          F_spec_swTogether_L1 fu k1_0 k1_1 k1_2 k1_3 n l1_2 (ior .i64 y1_8 s2.1) (iadd .i64 y1_24 1)))
    else
      some (l1_2, y1_8, y1_24)
def F_spec_swTogether (fu : Nat) (x0_0 : List Int) (x0_1 : List Int) (x1 : Bool) : Option (List (List Int)) :=
  bd (F_spec_swArcs fu x0_0) fun r1 =>
  bd (F_spec_swArcs fu x0_1) fun r2 =>
  bd (F_spec_swTogether_L1 fu x1 r1 r2 (llen r1) fu (@List.nil (List Int)) 0 0) fun s1 =>
  some s1.1
theorem F_spec_swTogether_w {fu : Nat} {H : AH} {v0_0 : Value} {v0_1 : Value} {x0_0 : List Int} {x0_1 : List Int} {x1 : Bool} {r : (List (List Int))} (hx0_0 : Sl H v0_0 (ints x0_0)) (hx0_1 : Sl H v0_1 (ints x0_1)) (hF : F_spec_swTogether fu x0_0 x0_1 x1 = some r) :
    ACallT Try.prog 67 [(Value.agg #[v0_0, v0_1]), (Value.bool x1)] H (fun u G => AgB (Fr H) H G ∧ ∃ u0 : Value, ∃ C0 : List Value, u = u0 ∧ Sep G (Fr H) [rowsC u0 22 3 C0 (List.map ints r)]) := by
  refine ACallT.of_body (nt := 108) (rs := [.tmp 4]) Try.func67 rfl rfl rfl rfl ?_
  have A0 : AgB (Fr H) H H := .refl _ _
  have S0 : Sep H (Fr H) [] := .nil
  have hB := Fr.up H
  unfold F_spec_swTogether at hF
  refine DWp.seq ?_
  obtain ⟨G2, p4, q5, q6, a7, S1⟩ := S0.boxT (hB.le A0.1) 26 [v0_0, v0_1]
  have A3 := A0.ext (hB.le A0.1) a7
  replace S1 : Sep G2 (Fr H) [AL.box p4 [v0_0, v0_1]] := S1
  refine DWp.region fun K hK => ?_
  simp [-aBin', -aBin, -aBinI, -aUn, -aNil, -flatV, n_fn, b_add, b_sub, b_mul, b_lt, b_le, b_gt, b_ge, b_eq, b_ne, u_not, q5, q6, a7.to_pre, cells_agg]
  apply hK
  clear hK K
  simp only [andThen, leaves]
  refine DWp.seq ?_
  have q8 := S1.fieldT (P := Try.prog) (k := 0) rfl fa_26_0
  have q9 := S1.loadF (P := Try.prog) (k := 0) rfl sz_22 ag_22 (off := 0) rfl
  obtain ⟨r1, hc10, hF⟩ := bd_some hF
  refine DWp.drawn (B := [0, 1, 3, 0, 8, 31, 63, 127]) 8 mixed (by kernel_rfl) (by decide) fun K hK => ?_
  simp [-aBin', -aBin, -aBinI, -aUn, -aNil, -flatV, n_fn, b_add, b_sub, b_mul, b_lt, b_le, b_gt, b_ge, b_eq, b_ne, u_not, q8, q9, ((hx0_0.agree A3.agree).tup)]
  refine CallD.t (F_spec_swArcs_w (fu := fu) (hx0_0.agree A3.agree) hc10) ?_
  rintro c11_u0 G12 ⟨a15, _, rfl, S16⟩
  have A14 := A3.ext (hB.le A3.1) a15.agree
  have S13 : Sep G12 (Fr H) [AL.box p4 [v0_0, v0_1], flat c11_u0 3 (ints r1)] := S1.app a15.agree S16 (fun _ h => h) (hB.le A3.1)
  have q17 := S13.fieldT (P := Try.prog) (k := 0) rfl fa_26_1
  have q18 := S13.loadF (P := Try.prog) (k := 0) rfl sz_22 ag_22 (off := 1) rfl
  obtain ⟨r2, hc19, hF⟩ := bd_some hF
  simp [-aBin', -aBin, -aBinI, -aUn, -aNil, -flatV, n_fn, b_add, b_sub, b_mul, b_lt, b_le, b_gt, b_ge, b_eq, b_ne, u_not, q8, q9, a15.pre, q17, q18, ((hx0_1.agree A14.agree).tup)]
  refine CallD.t (F_spec_swArcs_w (fu := fu) (hx0_1.agree A14.agree) hc19) ?_
  rintro c20_u0 G21 ⟨a24, _, rfl, S25⟩
  have A23 := A14.ext (hB.le A14.1) a24.agree
  have S22 : Sep G21 (Fr H) [AL.box p4 [v0_0, v0_1], flat c11_u0 3 (ints r1), flat c20_u0 3 (ints r2)] := S13.app a24.agree S25 (fun _ h => h) (hB.le A14.1)
  simp [-aBin', -aBin, -aBinI, -aUn, -aNil, -flatV, n_fn, b_add, b_sub, b_mul, b_lt, b_le, b_gt, b_ge, b_eq, b_ne, u_not, q8, q9, a15.pre, q17, q18, a24.pre]
  apply hK
  clear hK K
  simp only [andThen, leaves]
  refine DWp.seq ?_
  refine DWp.region fun K hK => ?_
  simp [-aBin', -aBin, -aBinI, -aUn, -aNil, -flatV, n_fn, b_add, b_sub, b_mul, b_lt, b_le, b_gt, b_ge, b_eq, b_ne, u_not]
  apply hK
  clear hK K
  simp only [andThen, leaves]
  refine DWp.seq ?_
  refine DWp.region fun K hK => ?_
  simp [-aBin', -aBin, -aBinI, -aUn, -aNil, -flatV, n_fn, b_add, b_sub, b_mul, b_lt, b_le, b_gt, b_ge, b_eq, b_ne, u_not]
  apply hK
  clear hK K
  simp only [andThen, leaves]
  refine DWp.seq ?_
  refine DWp.seq ?_
  have q26 := lenG (P := Try.prog) (S22.sl (k := 1) rfl) el_22
  refine DWp.region fun K hK => ?_
  simp [-aBin', -aBin, -aBinI, -aUn, -aNil, -flatV, n_fn, b_add, b_sub, b_mul, b_lt, b_le, b_gt, b_ge, b_eq, b_ne, u_not, q26]
  apply hK
  clear hK K
  simp only [andThen, leaves]
  refine DWp.block ?_
  have S27 := S22.rowsNil (hB.le A23.1) 22 3
  obtain ⟨s28, hL29, hF⟩ := bd_some hF
  have S30 := S27.pick [1, 2, 3] (by decide) rfl
  refine DWp.loop (fun n env G => ∃ l1_2 : List (List Int), ∃ y1_8 : Int, ∃ y1_24 : Int, ∃ w1_2 : Value, ∃ D1_2 : List Value, F_spec_swTogether_L1 fu x1 r1 r2 (llen r1) n l1_2 y1_8 y1_24 = some s28 ∧ Sep G (Fr H) [flat c11_u0 3 (ints r1), flat c20_u0 3 (ints r2), rowsC w1_2 22 3 D1_2 (List.map ints l1_2)] ∧ AgB (Fr H) H G ∧ env 1 = some (Value.bool x1) ∧ env 5 = some c11_u0 ∧ env 6 = some c20_u0 ∧ env 7 = some w1_2 ∧ env 8 = some (Value.int .i64 y1_8) ∧ env 23 = some (Value.int .i64 (llen r1)) ∧ env 24 = some (Value.int .i64 y1_24)) fu ⟨(@List.nil (List Int)), 0, 0, (Value.slice none 0 0), [], hL29, S30, A23, by simp [], by simp [], by simp [], by simp [], by simp [], by simp [], by simp []⟩ ?_
  rintro n1 env1 G1_ ⟨l1_2, y1_8, y1_24, w1_2, D1_2, hL29, S1_, A1_, e1_1, e1_5, e1_6, e1_7, e1_8, e1_23, e1_24⟩
  cases n1 with
  | zero => cases hL29
  | succ n1 =>
    simp only [F_spec_swTogether_L1] at hL29
    refine DWp.seq ?_
    refine DWp.region fun K hK => ?_
    simp [-aBin', -aBin, -aBinI, -aUn, -aNil, -flatV, n_fn, b_add, b_sub, b_mul, b_lt, b_le, b_gt, b_ge, b_eq, b_ne, u_not, e1_1, e1_5, e1_6, e1_7, e1_8, e1_23, e1_24]
    apply hK
    clear hK K
    simp only [andThen, leaves]
    refine DWp.seq ?_
    refine DWp.cond' (t := (ilt y1_24 (llen r1))) (by simp [e1_1, e1_5, e1_6, e1_7, e1_8, e1_23, e1_24]) (fun hb31 => ?_) (fun hb31 => ?_)
    · replace hL29 := cd_t hb31 hL29
      refine DWp.skip ?_
      simp only [andThen, leaves]
      refine DWp.seq ?_
      refine DWp.block ?_
      refine DWp.seq ?_
      refine DWp.region fun K hK => ?_
      simp [-aBin', -aBin, -aBinI, -aUn, -aNil, -flatV, n_fn, b_add, b_sub, b_mul, b_lt, b_le, b_gt, b_ge, b_eq, b_ne, u_not, e1_1, e1_5, e1_6, e1_7, e1_8, e1_23, e1_24]
      apply hK
      clear hK K
      simp only [andThen, leaves]
      refine DWp.seq ?_
      refine DWp.seq ?_
      obtain ⟨g32, hL29⟩ := gd_some hL29
      have g33 : (2 : Int) ≠ 0 := by decide
      refine DWp.region fun K hK => ?_
      simp [-aBin', -aBin, -aBinI, -aUn, -aNil, -flatV, n_fn, b_add, b_sub, b_mul, b_lt, b_le, b_gt, b_ge, b_eq, b_ne, u_not, e1_1, e1_5, e1_6, e1_7, e1_8, e1_23, e1_24, b_shr g32, b_rem g33]
      apply hK
      clear hK K
      simp only [andThen, leaves]
      refine DWp.cond' (t := (ieq (irem (ishr .i64 y1_8 y1_24) 2) 1)) (by simp [e1_1, e1_5, e1_6, e1_7, e1_8, e1_23, e1_24]) (fun hb34 => ?_) (fun hb34 => ?_)
      · replace hL29 := cd_t hb34 hL29
        refine DWp.exit ?_
        simp only [andThen, leaves, if_true, if_false, reduceIte, Nat.reduceEqDiff]
        refine DWp.region fun K hK => ?_
        simp [-aBin', -aBin, -aBinI, -aUn, -aNil, -flatV, n_fn, b_add, b_sub, b_mul, b_lt, b_le, b_gt, b_ge, b_eq, b_ne, u_not, e1_1, e1_5, e1_6, e1_7, e1_8, e1_23, e1_24]
        apply hK
        clear hK K
        simp only [andThen, leaves]
        have S35 := S1_.pick [0, 1, 2] (by decide) rfl
        exact ⟨n1, Nat.lt_succ_self _, l1_2, y1_8, (iadd .i64 y1_24 1), w1_2, D1_2, hL29, S35, A1_, by simp [e1_1, e1_5, e1_6, e1_7, e1_8, e1_23, e1_24], by simp [e1_1, e1_5, e1_6, e1_7, e1_8, e1_23, e1_24], by simp [e1_1, e1_5, e1_6, e1_7, e1_8, e1_23, e1_24], by simp [e1_1, e1_5, e1_6, e1_7, e1_8, e1_23, e1_24], by simp [e1_1, e1_5, e1_6, e1_7, e1_8, e1_23, e1_24], by simp [e1_1, e1_5, e1_6, e1_7, e1_8, e1_23, e1_24], by simp [e1_1, e1_5, e1_6, e1_7, e1_8, e1_23, e1_24]⟩
      · replace hL29 := cd_f hb34 hL29
        refine DWp.skip ?_
        simp only [andThen, leaves]
        refine DWp.seq ?_
        obtain ⟨g36, hL29⟩ := gd_some hL29
        refine DWp.region fun K hK => ?_
        simp [-aBin', -aBin, -aBinI, -aUn, -aNil, -flatV, n_fn, b_add, b_sub, b_mul, b_lt, b_le, b_gt, b_ge, b_eq, b_ne, u_not, e1_1, e1_5, e1_6, e1_7, e1_8, e1_23, e1_24, b_shl g36]
        apply hK
        clear hK K
        simp only [andThen, leaves]
        refine DWp.seq ?_
        refine DWp.seq ?_
        refine DWp.region fun K hK => ?_
        simp [-aBin', -aBin, -aBinI, -aUn, -aNil, -flatV, n_fn, b_add, b_sub, b_mul, b_lt, b_le, b_gt, b_ge, b_eq, b_ne, u_not, e1_1, e1_5, e1_6, e1_7, e1_8, e1_23, e1_24]
        apply hK
        clear hK K
        simp only [andThen, leaves]
        refine DWp.block ?_
        obtain ⟨s37, hL38, hL29⟩ := bd_some hL29
        have S39 := S1_.pick [0, 1, 2] (by decide) rfl
        refine DWp.loop (fun n env G => ∃ y2_10 : Int, ∃ y2_11 : Int, F_spec_swTogether_L2 fu x1 r1 r2 l1_2 y1_8 (llen r1) y1_24 n y2_10 y2_11 = some s37 ∧ Sep G (Fr H) [flat c11_u0 3 (ints r1), flat c20_u0 3 (ints r2), rowsC w1_2 22 3 D1_2 (List.map ints l1_2)] ∧ AgB (Fr H) H G ∧ env 1 = some (Value.bool x1) ∧ env 5 = some c11_u0 ∧ env 6 = some c20_u0 ∧ env 7 = some w1_2 ∧ env 8 = some (Value.int .i64 y1_8) ∧ env 10 = some (Value.int .i64 y2_10) ∧ env 11 = some (Value.int .i64 y2_11) ∧ env 23 = some (Value.int .i64 (llen r1)) ∧ env 24 = some (Value.int .i64 y1_24)) fu ⟨(ishl .i64 1 y1_24), 0, hL38, S39, A1_, by simp [e1_1, e1_5, e1_6, e1_7, e1_8, e1_23, e1_24], by simp [e1_1, e1_5, e1_6, e1_7, e1_8, e1_23, e1_24], by simp [e1_1, e1_5, e1_6, e1_7, e1_8, e1_23, e1_24], by simp [e1_1, e1_5, e1_6, e1_7, e1_8, e1_23, e1_24], by simp [e1_1, e1_5, e1_6, e1_7, e1_8, e1_23, e1_24], by simp [e1_1, e1_5, e1_6, e1_7, e1_8, e1_23, e1_24], by simp [e1_1, e1_5, e1_6, e1_7, e1_8, e1_23, e1_24], by simp [e1_1, e1_5, e1_6, e1_7, e1_8, e1_23, e1_24], by simp [e1_1, e1_5, e1_6, e1_7, e1_8, e1_23, e1_24]⟩ ?_
        rintro n2 env2 G2_ ⟨y2_10, y2_11, hL38, S2_, A2_, e2_1, e2_5, e2_6, e2_7, e2_8, e2_10, e2_11, e2_23, e2_24⟩
        cases n2 with
        | zero => cases hL38
        | succ n2 =>
          simp only [F_spec_swTogether_L2] at hL38
          refine DWp.seq ?_
          refine DWp.seq ?_
          have q40 := lenG (P := Try.prog) (S2_.sl (k := 0) rfl) el_22
          refine DWp.region fun K hK => ?_
          simp [-aBin', -aBin, -aBinI, -aUn, -aNil, -flatV, n_fn, b_add, b_sub, b_mul, b_lt, b_le, b_gt, b_ge, b_eq, b_ne, u_not, e2_1, e2_5, e2_6, e2_7, e2_8, e2_10, e2_11, e2_23, e2_24, q40]
          apply hK
          clear hK K
          simp only [andThen, leaves]
          refine DWp.cond' (t := (ilt y2_11 (llen r1))) (by simp [e2_1, e2_5, e2_6, e2_7, e2_8, e2_10, e2_11, e2_23, e2_24]) (fun hb41 => ?_) (fun hb41 => ?_)
          · replace hL38 := cd_t hb41 hL38
            refine DWp.skip ?_
            simp only [andThen, leaves]
            refine DWp.seq ?_
            refine DWp.block ?_
            refine DWp.seq ?_
            have q42 := lenG (P := Try.prog) (S2_.sl (k := 0) rfl) el_22
            refine DWp.region fun K hK => ?_
            simp [-aBin', -aBin, -aBinI, -aUn, -aNil, -flatV, n_fn, b_add, b_sub, b_mul, b_lt, b_le, b_gt, b_ge, b_eq, b_ne, u_not, e2_1, e2_5, e2_6, e2_7, e2_8, e2_10, e2_11, e2_23, e2_24, q42]
            apply hK
            clear hK K
            simp only [andThen, leaves]
            refine DWp.block ?_
            obtain ⟨s43, hL44, hL38⟩ := bd_some hL38
            have S45 := S2_.pick [0, 1, 2] (by decide) rfl
            refine DWp.loop (fun n env G => ∃ y3_10 : Int, ∃ y3_42 : Int, F_spec_swTogether_L3 fu x1 r1 r2 l1_2 y1_8 y2_11 (llen r1) y1_24 n y3_10 y3_42 = some s43 ∧ Sep G (Fr H) [flat c11_u0 3 (ints r1), flat c20_u0 3 (ints r2), rowsC w1_2 22 3 D1_2 (List.map ints l1_2)] ∧ AgB (Fr H) H G ∧ env 1 = some (Value.bool x1) ∧ env 5 = some c11_u0 ∧ env 6 = some c20_u0 ∧ env 7 = some w1_2 ∧ env 8 = some (Value.int .i64 y1_8) ∧ env 10 = some (Value.int .i64 y3_10) ∧ env 11 = some (Value.int .i64 y2_11) ∧ env 23 = some (Value.int .i64 (llen r1)) ∧ env 24 = some (Value.int .i64 y1_24) ∧ env 41 = some (Value.int .i64 (llen r1)) ∧ env 42 = some (Value.int .i64 y3_42)) fu ⟨y2_10, 0, hL44, S45, A2_, by simp [e2_1, e2_5, e2_6, e2_7, e2_8, e2_10, e2_11, e2_23, e2_24], by simp [e2_1, e2_5, e2_6, e2_7, e2_8, e2_10, e2_11, e2_23, e2_24], by simp [e2_1, e2_5, e2_6, e2_7, e2_8, e2_10, e2_11, e2_23, e2_24], by simp [e2_1, e2_5, e2_6, e2_7, e2_8, e2_10, e2_11, e2_23, e2_24], by simp [e2_1, e2_5, e2_6, e2_7, e2_8, e2_10, e2_11, e2_23, e2_24], by simp [e2_1, e2_5, e2_6, e2_7, e2_8, e2_10, e2_11, e2_23, e2_24], by simp [e2_1, e2_5, e2_6, e2_7, e2_8, e2_10, e2_11, e2_23, e2_24], by simp [e2_1, e2_5, e2_6, e2_7, e2_8, e2_10, e2_11, e2_23, e2_24], by simp [e2_1, e2_5, e2_6, e2_7, e2_8, e2_10, e2_11, e2_23, e2_24], by simp [e2_1, e2_5, e2_6, e2_7, e2_8, e2_10, e2_11, e2_23, e2_24], by simp [e2_1, e2_5, e2_6, e2_7, e2_8, e2_10, e2_11, e2_23, e2_24]⟩ ?_
            rintro n3 env3 G3_ ⟨y3_10, y3_42, hL44, S3_, A3_, e3_1, e3_5, e3_6, e3_7, e3_8, e3_10, e3_11, e3_23, e3_24, e3_41, e3_42⟩
            cases n3 with
            | zero => cases hL44
            | succ n3 =>
              simp only [F_spec_swTogether_L3] at hL44
              refine DWp.seq ?_
              refine DWp.region fun K hK => ?_
              simp [-aBin', -aBin, -aBinI, -aUn, -aNil, -flatV, n_fn, b_add, b_sub, b_mul, b_lt, b_le, b_gt, b_ge, b_eq, b_ne, u_not, e3_1, e3_5, e3_6, e3_7, e3_8, e3_10, e3_11, e3_23, e3_24, e3_41, e3_42]
              apply hK
              clear hK K
              simp only [andThen, leaves]
              refine DWp.seq ?_
              refine DWp.cond' (t := (ilt y3_42 (llen r1))) (by simp [e3_1, e3_5, e3_6, e3_7, e3_8, e3_10, e3_11, e3_23, e3_24, e3_41, e3_42]) (fun hb46 => ?_) (fun hb46 => ?_)
              · replace hL44 := cd_t hb46 hL44
                refine DWp.skip ?_
                simp only [andThen, leaves]
                refine DWp.seq ?_
                refine DWp.block ?_
                refine DWp.seq ?_
                refine DWp.region fun K hK => ?_
                simp [-aBin', -aBin, -aBinI, -aUn, -aNil, -flatV, n_fn, b_add, b_sub, b_mul, b_lt, b_le, b_gt, b_ge, b_eq, b_ne, u_not, e3_1, e3_5, e3_6, e3_7, e3_8, e3_10, e3_11, e3_23, e3_24, e3_41, e3_42]
                apply hK
                clear hK K
                simp only [andThen, leaves]
                refine DWp.seq ?_
                obtain ⟨g47, hL44⟩ := gd_some hL44
                have g48 : (2 : Int) ≠ 0 := by decide
                refine DWp.region fun K hK => ?_
                simp [-aBin', -aBin, -aBinI, -aUn, -aNil, -flatV, n_fn, b_add, b_sub, b_mul, b_lt, b_le, b_gt, b_ge, b_eq, b_ne, u_not, e3_1, e3_5, e3_6, e3_7, e3_8, e3_10, e3_11, e3_23, e3_24, e3_41, e3_42, b_shr g47, b_rem g48]
                apply hK
                clear hK K
                simp only [andThen, leaves]
                refine DWp.cond' (t := (ieq (irem (ishr .i64 y3_10 y3_42) 2) 1)) (by simp [e3_1, e3_5, e3_6, e3_7, e3_8, e3_10, e3_11, e3_23, e3_24, e3_41, e3_42]) (fun hb49 => ?_) (fun hb49 => ?_)
                · replace hL44 := cd_t hb49 hL44
                  obtain ⟨g50, hL44⟩ := gd_some hL44
                  have q51 := idxG (P := Try.prog) (kk := .i64) (S3_.sl (k := 0) rfl) el_22 sz_3 g50
                  have q52 := loadG (P := Try.prog) (S3_.sl (k := 0) rfl) sz_3 ag_3 g50 0
                  obtain ⟨g53, hL44⟩ := gd_some hL44
                  obtain ⟨g54, hL44⟩ := gd_some hL44
                  have q55 := idxG (P := Try.prog) (kk := .i64) (S3_.sl (k := 1) rfl) el_22 sz_3 g54
                  have q56 := loadG (P := Try.prog) (S3_.sl (k := 1) rfl) sz_3 ag_3 g54 0
                  obtain ⟨g57, hL44⟩ := gd_some hL44
                  refine DWp.drawn (B := [0, 0, 0, 6, 14, 30, 0, 0, 192, 448, 960, 2046, 4095, 8191]) 14 mixed (by kernel_rfl) (by decide) fun K hK => ?_
                  simp [-aBin', -aBin, -aBinI, -aUn, -aNil, -flatV, n_fn, b_add, b_sub, b_mul, b_lt, b_le, b_gt, b_ge, b_eq, b_ne, u_not, e3_1, e3_5, e3_6, e3_7, e3_8, e3_10, e3_11, e3_23, e3_24, e3_41, e3_42, q51, q52, b_shl g53, q55, q56, b_shl g57, b_or]
                  apply hK
                  clear hK K
                  simp only [andThen, leaves]
                  refine DWp.region fun K hK => ?_
                  simp [-aBin', -aBin, -aBinI, -aUn, -aNil, -flatV, n_fn, b_add, b_sub, b_mul, b_lt, b_le, b_gt, b_ge, b_eq, b_ne, u_not, e3_1, e3_5, e3_6, e3_7, e3_8, e3_10, e3_11, e3_23, e3_24, e3_41, e3_42]
                  apply hK
                  clear hK K
                  simp only [andThen, leaves]
                  have S58 := S3_.pick [0, 1, 2] (by decide) rfl
                  exact ⟨n3, Nat.lt_succ_self _, (ior .i64 y3_10 (ior .i64 (ishl .i64 1 (gat 0 r1 y3_42)) (ishl .i64 1 (gat 0 r2 y3_42)))), (iadd .i64 y3_42 1), hL44, S58, A3_, by simp [e3_1, e3_5, e3_6, e3_7, e3_8, e3_10, e3_11, e3_23, e3_24, e3_41, e3_42], by simp [e3_1, e3_5, e3_6, e3_7, e3_8, e3_10, e3_11, e3_23, e3_24, e3_41, e3_42], by simp [e3_1, e3_5, e3_6, e3_7, e3_8, e3_10, e3_11, e3_23, e3_24, e3_41, e3_42], by simp [e3_1, e3_5, e3_6, e3_7, e3_8, e3_10, e3_11, e3_23, e3_24, e3_41, e3_42], by simp [e3_1, e3_5, e3_6, e3_7, e3_8, e3_10, e3_11, e3_23, e3_24, e3_41, e3_42], by simp [e3_1, e3_5, e3_6, e3_7, e3_8, e3_10, e3_11, e3_23, e3_24, e3_41, e3_42], by simp [e3_1, e3_5, e3_6, e3_7, e3_8, e3_10, e3_11, e3_23, e3_24, e3_41, e3_42], by simp [e3_1, e3_5, e3_6, e3_7, e3_8, e3_10, e3_11, e3_23, e3_24, e3_41, e3_42], by simp [e3_1, e3_5, e3_6, e3_7, e3_8, e3_10, e3_11, e3_23, e3_24, e3_41, e3_42], by simp [e3_1, e3_5, e3_6, e3_7, e3_8, e3_10, e3_11, e3_23, e3_24, e3_41, e3_42], by simp [e3_1, e3_5, e3_6, e3_7, e3_8, e3_10, e3_11, e3_23, e3_24, e3_41, e3_42]⟩
                · replace hL44 := cd_f hb49 hL44
                  refine DWp.skip ?_
                  simp only [andThen, leaves]
                  refine DWp.region fun K hK => ?_
                  simp [-aBin', -aBin, -aBinI, -aUn, -aNil, -flatV, n_fn, b_add, b_sub, b_mul, b_lt, b_le, b_gt, b_ge, b_eq, b_ne, u_not, e3_1, e3_5, e3_6, e3_7, e3_8, e3_10, e3_11, e3_23, e3_24, e3_41, e3_42]
                  apply hK
                  clear hK K
                  simp only [andThen, leaves]
                  have S59 := S3_.pick [0, 1, 2] (by decide) rfl
                  exact ⟨n3, Nat.lt_succ_self _, y3_10, (iadd .i64 y3_42 1), hL44, S59, A3_, by simp [e3_1, e3_5, e3_6, e3_7, e3_8, e3_10, e3_11, e3_23, e3_24, e3_41, e3_42], by simp [e3_1, e3_5, e3_6, e3_7, e3_8, e3_10, e3_11, e3_23, e3_24, e3_41, e3_42], by simp [e3_1, e3_5, e3_6, e3_7, e3_8, e3_10, e3_11, e3_23, e3_24, e3_41, e3_42], by simp [e3_1, e3_5, e3_6, e3_7, e3_8, e3_10, e3_11, e3_23, e3_24, e3_41, e3_42], by simp [e3_1, e3_5, e3_6, e3_7, e3_8, e3_10, e3_11, e3_23, e3_24, e3_41, e3_42], by simp [e3_1, e3_5, e3_6, e3_7, e3_8, e3_10, e3_11, e3_23, e3_24, e3_41, e3_42], by simp [e3_1, e3_5, e3_6, e3_7, e3_8, e3_10, e3_11, e3_23, e3_24, e3_41, e3_42], by simp [e3_1, e3_5, e3_6, e3_7, e3_8, e3_10, e3_11, e3_23, e3_24, e3_41, e3_42], by simp [e3_1, e3_5, e3_6, e3_7, e3_8, e3_10, e3_11, e3_23, e3_24, e3_41, e3_42], by simp [e3_1, e3_5, e3_6, e3_7, e3_8, e3_10, e3_11, e3_23, e3_24, e3_41, e3_42], by simp [e3_1, e3_5, e3_6, e3_7, e3_8, e3_10, e3_11, e3_23, e3_24, e3_41, e3_42]⟩
              · replace hL44 := cd_f hb46 hL44
                refine DWp.exit ?_
                simp only [andThen, leaves, if_true, if_false, reduceIte, Nat.reduceEqDiff]
                obtain rfl := Option.some.inj hL44
                try dsimp only at hL38
                refine DWp.region fun K hK => ?_
                simp [-aBin', -aBin, -aBinI, -aUn, -aNil, -flatV, n_fn, b_add, b_sub, b_mul, b_lt, b_le, b_gt, b_ge, b_eq, b_ne, u_not, e3_1, e3_5, e3_6, e3_7, e3_8, e3_10, e3_11, e3_23, e3_24, e3_41, e3_42]
                apply hK
                clear hK K
                simp only [andThen, leaves]
                have S60 := S3_.pick [0, 1, 2] (by decide) rfl
                exact ⟨n2, Nat.lt_succ_self _, y3_10, (iadd .i64 y2_11 1), hL38, S60, A3_, by simp [e3_1, e3_5, e3_6, e3_7, e3_8, e3_10, e3_11, e3_23, e3_24, e3_41, e3_42], by simp [e3_1, e3_5, e3_6, e3_7, e3_8, e3_10, e3_11, e3_23, e3_24, e3_41, e3_42], by simp [e3_1, e3_5, e3_6, e3_7, e3_8, e3_10, e3_11, e3_23, e3_24, e3_41, e3_42], by simp [e3_1, e3_5, e3_6, e3_7, e3_8, e3_10, e3_11, e3_23, e3_24, e3_41, e3_42], by simp [e3_1, e3_5, e3_6, e3_7, e3_8, e3_10, e3_11, e3_23, e3_24, e3_41, e3_42], by simp [e3_1, e3_5, e3_6, e3_7, e3_8, e3_10, e3_11, e3_23, e3_24, e3_41, e3_42], by simp [e3_1, e3_5, e3_6, e3_7, e3_8, e3_10, e3_11, e3_23, e3_24, e3_41, e3_42], by simp [e3_1, e3_5, e3_6, e3_7, e3_8, e3_10, e3_11, e3_23, e3_24, e3_41, e3_42], by simp [e3_1, e3_5, e3_6, e3_7, e3_8, e3_10, e3_11, e3_23, e3_24, e3_41, e3_42]⟩
          · replace hL38 := cd_f hb41 hL38
            refine DWp.exit ?_
            simp only [andThen, leaves, if_true, if_false, reduceIte, Nat.reduceEqDiff]
            obtain rfl := Option.some.inj hL38
            try dsimp only at hL29
            refine DWp.seq ?_
            refine DWp.region fun K hK => ?_
            simp [-aBin', -aBin, -aBinI, -aUn, -aNil, -flatV, n_fn, b_add, b_sub, b_mul, b_lt, b_le, b_gt, b_ge, b_eq, b_ne, u_not, e2_1, e2_5, e2_6, e2_7, e2_8, e2_10, e2_11, e2_23, e2_24, b_or]
            apply hK
            clear hK K
            simp only [andThen, leaves]
            refine DWp.seq ?_
            refine DWp.region fun K hK => ?_
            simp [-aBin', -aBin, -aBinI, -aUn, -aNil, -flatV, n_fn, b_add, b_sub, b_mul, b_lt, b_le, b_gt, b_ge, b_eq, b_ne, u_not, e2_1, e2_5, e2_6, e2_7, e2_8, e2_10, e2_11, e2_23, e2_24]
            apply hK
            clear hK K
            simp only [andThen, leaves]
            refine DWp.seq ?_
            refine DWp.region fun K hK => ?_
            simp [-aBin', -aBin, -aBinI, -aUn, -aNil, -flatV, n_fn, b_add, b_sub, b_mul, b_lt, b_le, b_gt, b_ge, b_eq, b_ne, u_not, e2_1, e2_5, e2_6, e2_7, e2_8, e2_10, e2_11, e2_23, e2_24]
            apply hK
            clear hK K
            simp only [andThen, leaves]
            refine DWp.seq ?_
            refine DWp.seq ?_
            have q61 := lenG (P := Try.prog) (S2_.sl (k := 0) rfl) el_22
            refine DWp.region fun K hK => ?_
            simp [-aBin', -aBin, -aBinI, -aUn, -aNil, -flatV, n_fn, b_add, b_sub, b_mul, b_lt, b_le, b_gt, b_ge, b_eq, b_ne, u_not, e2_1, e2_5, e2_6, e2_7, e2_8, e2_10, e2_11, e2_23, e2_24, q61]
            apply hK
            clear hK K
            simp only [andThen, leaves]
            refine DWp.block ?_
            have S62 := S2_.nilItem (hB.le A2_.1) 3
            obtain ⟨s63, hL64, hL29⟩ := bd_some hL29
            have S65 := S62.pick [0, 1, 2, 3] (by decide) rfl
            refine DWp.loop (fun n env G => ∃ l4_3 : List Int, ∃ y4_14 : Bool, ∃ y4_69 : Int, ∃ w4_3 : Value, F_spec_swTogether_L4 fu x1 r1 r2 l1_2 (ior .i64 y1_8 y2_10) y2_10 (llen r1) y1_24 n l4_3 y4_14 y4_69 = some s63 ∧ Sep G (Fr H) [flat c11_u0 3 (ints r1), flat c20_u0 3 (ints r2), rowsC w1_2 22 3 D1_2 (List.map ints l1_2), flat w4_3 3 (ints l4_3)] ∧ AgB (Fr H) H G ∧ env 1 = some (Value.bool x1) ∧ env 5 = some c11_u0 ∧ env 6 = some c20_u0 ∧ env 7 = some w1_2 ∧ env 8 = some (Value.int .i64 (ior .i64 y1_8 y2_10)) ∧ env 10 = some (Value.int .i64 y2_10) ∧ env 13 = some w4_3 ∧ env 14 = some (Value.bool y4_14) ∧ env 23 = some (Value.int .i64 (llen r1)) ∧ env 24 = some (Value.int .i64 y1_24) ∧ env 68 = some (Value.int .i64 (llen r1)) ∧ env 69 = some (Value.int .i64 y4_69)) fu ⟨(@List.nil Int), false, 0, (Value.slice none 0 0), hL64, S65, A2_, by simp [e2_1, e2_5, e2_6, e2_7, e2_8, e2_10, e2_11, e2_23, e2_24], by simp [e2_1, e2_5, e2_6, e2_7, e2_8, e2_10, e2_11, e2_23, e2_24], by simp [e2_1, e2_5, e2_6, e2_7, e2_8, e2_10, e2_11, e2_23, e2_24], by simp [e2_1, e2_5, e2_6, e2_7, e2_8, e2_10, e2_11, e2_23, e2_24], by simp [e2_1, e2_5, e2_6, e2_7, e2_8, e2_10, e2_11, e2_23, e2_24], by simp [e2_1, e2_5, e2_6, e2_7, e2_8, e2_10, e2_11, e2_23, e2_24], by simp [e2_1, e2_5, e2_6, e2_7, e2_8, e2_10, e2_11, e2_23, e2_24], by simp [e2_1, e2_5, e2_6, e2_7, e2_8, e2_10, e2_11, e2_23, e2_24], by simp [e2_1, e2_5, e2_6, e2_7, e2_8, e2_10, e2_11, e2_23, e2_24], by simp [e2_1, e2_5, e2_6, e2_7, e2_8, e2_10, e2_11, e2_23, e2_24], by simp [e2_1, e2_5, e2_6, e2_7, e2_8, e2_10, e2_11, e2_23, e2_24], by simp [e2_1, e2_5, e2_6, e2_7, e2_8, e2_10, e2_11, e2_23, e2_24]⟩ ?_
            rintro n2 env2 G2_ ⟨l4_3, y4_14, y4_69, w4_3, hL64, S2_, A2_, e2_1, e2_5, e2_6, e2_7, e2_8, e2_10, e2_13, e2_14, e2_23, e2_24, e2_68, e2_69⟩
            cases n2 with
            | zero => cases hL64
            | succ n2 =>
              simp only [F_spec_swTogether_L4] at hL64
              refine DWp.seq ?_
              refine DWp.region fun K hK => ?_
              simp [-aBin', -aBin, -aBinI, -aUn, -aNil, -flatV, n_fn, b_add, b_sub, b_mul, b_lt, b_le, b_gt, b_ge, b_eq, b_ne, u_not, e2_1, e2_5, e2_6, e2_7, e2_8, e2_10, e2_13, e2_14, e2_23, e2_24, e2_68, e2_69]
              apply hK
              clear hK K
              simp only [andThen, leaves]
              refine DWp.seq ?_
              refine DWp.cond' (t := (ilt y4_69 (llen r1))) (by simp [e2_1, e2_5, e2_6, e2_7, e2_8, e2_10, e2_13, e2_14, e2_23, e2_24, e2_68, e2_69]) (fun hb66 => ?_) (fun hb66 => ?_)
              · replace hL64 := cd_t hb66 hL64
                refine DWp.skip ?_
                simp only [andThen, leaves]
                refine DWp.seq ?_
                refine DWp.block ?_
                refine DWp.seq ?_
                refine DWp.region fun K hK => ?_
                simp [-aBin', -aBin, -aBinI, -aUn, -aNil, -flatV, n_fn, b_add, b_sub, b_mul, b_lt, b_le, b_gt, b_ge, b_eq, b_ne, u_not, e2_1, e2_5, e2_6, e2_7, e2_8, e2_10, e2_13, e2_14, e2_23, e2_24, e2_68, e2_69]
                apply hK
                clear hK K
                simp only [andThen, leaves]
                refine DWp.seq ?_
                obtain ⟨g67, hL64⟩ := gd_some hL64
                have g68 : (2 : Int) ≠ 0 := by decide
                refine DWp.region fun K hK => ?_
                simp [-aBin', -aBin, -aBinI, -aUn, -aNil, -flatV, n_fn, b_add, b_sub, b_mul, b_lt, b_le, b_gt, b_ge, b_eq, b_ne, u_not, e2_1, e2_5, e2_6, e2_7, e2_8, e2_10, e2_13, e2_14, e2_23, e2_24, e2_68, e2_69, b_shr g67, b_rem g68]
                apply hK
                clear hK K
                simp only [andThen, leaves]
                refine DWp.cond' (t := (ieq (irem (ishr .i64 y2_10 y4_69) 2) 1)) (by simp [e2_1, e2_5, e2_6, e2_7, e2_8, e2_10, e2_13, e2_14, e2_23, e2_24, e2_68, e2_69]) (fun hb69 => ?_) (fun hb69 => ?_)
                · replace hL64 := cd_t hb69 hL64
                  refine DWp.seq ?_
                  obtain ⟨v70, G71, q72, S73, a75, _, _⟩ := S2_.lit1 (P := Try.prog) (t := 22) (hB.le A2_.1) el_22 ei_3 rfl (Value.int .i64 y4_69) rfl rfl
                  have A74 := A2_.ext (hB.le A2_.1) a75
                  replace S73 : Sep G71 (Fr H) [flat c11_u0 3 (ints r1), flat c20_u0 3 (ints r2), rowsC w1_2 22 3 D1_2 (List.map ints l1_2), flat w4_3 3 (ints l4_3), flat1 v70 3 (ints [y4_69])] := S73
                  obtain ⟨g77, hL64⟩ := gd_some hL64
                  obtain ⟨v83, G78, q79, S80, a82, _, _⟩ := S73.appendG (f := (Value.int .i64)) (xs := l4_3) (ys := [y4_69]) (P := Try.prog) (t := 22) (t2 := 22) (k := 3) rfl (hB.le A74.1) el_22 el_22 ei_3 rfl (S73.sl1 (k := 4) rfl) g77
                  have A81 := A74.trans a82
                  replace S80 : Sep G78 (Fr H) [flat c11_u0 3 (ints r1), flat c20_u0 3 (ints r2), rowsC w1_2 22 3 D1_2 (List.map ints l1_2), flat v83 3 (ints (lapp l4_3 [y4_69])), flat1 v70 3 (ints [y4_69])] := S80
                  refine DWp.region fun K hK => ?_
                  simp [-aBin', -aBin, -aBinI, -aUn, -aNil, -flatV, n_fn, b_add, b_sub, b_mul, b_lt, b_le, b_gt, b_ge, b_eq, b_ne, u_not, e2_1, e2_5, e2_6, e2_7, e2_8, e2_10, e2_13, e2_14, e2_23, e2_24, e2_68, e2_69, q72, a75.to_pre, q79]
                  apply hK
                  clear hK K
                  simp only [andThen, leaves]
                  rcases Bool.eq_false_or_eq_true y4_14 with hb84 | hb84
                  · replace hL64 := cd_t hb84 hL64
                    refine DWp.region fun K hK => ?_
                    simp [-aBin', -aBin, -aBinI, -aUn, -aNil, -flatV, n_fn, b_add, b_sub, b_mul, b_lt, b_le, b_gt, b_ge, b_eq, b_ne, u_not, e2_1, e2_5, e2_6, e2_7, e2_8, e2_10, e2_13, e2_14, e2_23, e2_24, e2_68, e2_69, hb84]
                    apply hK
                    clear hK K
                    simp only [andThen, leaves]
                    refine DWp.region fun K hK => ?_
                    simp [-aBin', -aBin, -aBinI, -aUn, -aNil, -flatV, n_fn, b_add, b_sub, b_mul, b_lt, b_le, b_gt, b_ge, b_eq, b_ne, u_not, e2_1, e2_5, e2_6, e2_7, e2_8, e2_10, e2_13, e2_14, e2_23, e2_24, e2_68, e2_69]
                    apply hK
                    clear hK K
                    simp only [andThen, leaves]
                    have S85 := S80.pick [0, 1, 2, 3] (by decide) rfl
                    exact ⟨n2, Nat.lt_succ_self _, (lapp l4_3 [y4_69]), true, (iadd .i64 y4_69 1), v83, hL64, S85, A81, by simp [e2_1, e2_5, e2_6, e2_7, e2_8, e2_10, e2_13, e2_14, e2_23, e2_24, e2_68, e2_69], by simp [e2_1, e2_5, e2_6, e2_7, e2_8, e2_10, e2_13, e2_14, e2_23, e2_24, e2_68, e2_69], by simp [e2_1, e2_5, e2_6, e2_7, e2_8, e2_10, e2_13, e2_14, e2_23, e2_24, e2_68, e2_69], by simp [e2_1, e2_5, e2_6, e2_7, e2_8, e2_10, e2_13, e2_14, e2_23, e2_24, e2_68, e2_69], by simp [e2_1, e2_5, e2_6, e2_7, e2_8, e2_10, e2_13, e2_14, e2_23, e2_24, e2_68, e2_69], by simp [e2_1, e2_5, e2_6, e2_7, e2_8, e2_10, e2_13, e2_14, e2_23, e2_24, e2_68, e2_69], by simp [e2_1, e2_5, e2_6, e2_7, e2_8, e2_10, e2_13, e2_14, e2_23, e2_24, e2_68, e2_69], by simp [e2_1, e2_5, e2_6, e2_7, e2_8, e2_10, e2_13, e2_14, e2_23, e2_24, e2_68, e2_69], by simp [e2_1, e2_5, e2_6, e2_7, e2_8, e2_10, e2_13, e2_14, e2_23, e2_24, e2_68, e2_69], by simp [e2_1, e2_5, e2_6, e2_7, e2_8, e2_10, e2_13, e2_14, e2_23, e2_24, e2_68, e2_69], by simp [e2_1, e2_5, e2_6, e2_7, e2_8, e2_10, e2_13, e2_14, e2_23, e2_24, e2_68, e2_69], by simp [e2_1, e2_5, e2_6, e2_7, e2_8, e2_10, e2_13, e2_14, e2_23, e2_24, e2_68, e2_69]⟩
                  · replace hL64 := cd_f hb84 hL64
                    obtain ⟨g86, hL64⟩ := gd_some hL64
                    have q87 := idxG (P := Try.prog) (kk := .i64) (S80.sl (k := 0) rfl) el_22 sz_3 g86
                    have q88 := loadG (P := Try.prog) (S80.sl (k := 0) rfl) sz_3 ag_3 g86 0
                    rcases Bool.eq_false_or_eq_true (ieq (gat 0 r1 y4_69) y4_69) with hb89 | hb89
                    · replace hL64 := cd_t hb89 hL64
                      refine DWp.region fun K hK => ?_
                      simp [-aBin', -aBin, -aBinI, -aUn, -aNil, -flatV, n_fn, b_add, b_sub, b_mul, b_lt, b_le, b_gt, b_ge, b_eq, b_ne, u_not, e2_1, e2_5, e2_6, e2_7, e2_8, e2_10, e2_13, e2_14, e2_23, e2_24, e2_68, e2_69, hb84, hb89, q87, q88]
                      apply hK
                      clear hK K
                      simp only [andThen, leaves]
                      refine DWp.region fun K hK => ?_
                      simp [-aBin', -aBin, -aBinI, -aUn, -aNil, -flatV, n_fn, b_add, b_sub, b_mul, b_lt, b_le, b_gt, b_ge, b_eq, b_ne, u_not, e2_1, e2_5, e2_6, e2_7, e2_8, e2_10, e2_13, e2_14, e2_23, e2_24, e2_68, e2_69]
                      apply hK
                      clear hK K
                      simp only [andThen, leaves]
                      have S90 := S80.pick [0, 1, 2, 3] (by decide) rfl
                      exact ⟨n2, Nat.lt_succ_self _, (lapp l4_3 [y4_69]), true, (iadd .i64 y4_69 1), v83, hL64, S90, A81, by simp [e2_1, e2_5, e2_6, e2_7, e2_8, e2_10, e2_13, e2_14, e2_23, e2_24, e2_68, e2_69], by simp [e2_1, e2_5, e2_6, e2_7, e2_8, e2_10, e2_13, e2_14, e2_23, e2_24, e2_68, e2_69], by simp [e2_1, e2_5, e2_6, e2_7, e2_8, e2_10, e2_13, e2_14, e2_23, e2_24, e2_68, e2_69], by simp [e2_1, e2_5, e2_6, e2_7, e2_8, e2_10, e2_13, e2_14, e2_23, e2_24, e2_68, e2_69], by simp [e2_1, e2_5, e2_6, e2_7, e2_8, e2_10, e2_13, e2_14, e2_23, e2_24, e2_68, e2_69], by simp [e2_1, e2_5, e2_6, e2_7, e2_8, e2_10, e2_13, e2_14, e2_23, e2_24, e2_68, e2_69], by simp [e2_1, e2_5, e2_6, e2_7, e2_8, e2_10, e2_13, e2_14, e2_23, e2_24, e2_68, e2_69], by simp [e2_1, e2_5, e2_6, e2_7, e2_8, e2_10, e2_13, e2_14, e2_23, e2_24, e2_68, e2_69], by simp [e2_1, e2_5, e2_6, e2_7, e2_8, e2_10, e2_13, e2_14, e2_23, e2_24, e2_68, e2_69], by simp [e2_1, e2_5, e2_6, e2_7, e2_8, e2_10, e2_13, e2_14, e2_23, e2_24, e2_68, e2_69], by simp [e2_1, e2_5, e2_6, e2_7, e2_8, e2_10, e2_13, e2_14, e2_23, e2_24, e2_68, e2_69], by simp [e2_1, e2_5, e2_6, e2_7, e2_8, e2_10, e2_13, e2_14, e2_23, e2_24, e2_68, e2_69]⟩
                    · replace hL64 := cd_f hb89 hL64
                      obtain ⟨g91, hL64⟩ := gd_some hL64
                      have q92 := idxG (P := Try.prog) (kk := .i64) (S80.sl (k := 1) rfl) el_22 sz_3 g91
                      have q93 := loadG (P := Try.prog) (S80.sl (k := 1) rfl) sz_3 ag_3 g91 0
                      refine DWp.region fun K hK => ?_
                      simp [-aBin', -aBin, -aBinI, -aUn, -aNil, -flatV, n_fn, b_add, b_sub, b_mul, b_lt, b_le, b_gt, b_ge, b_eq, b_ne, u_not, e2_1, e2_5, e2_6, e2_7, e2_8, e2_10, e2_13, e2_14, e2_23, e2_24, e2_68, e2_69, hb84, hb89, q87, q88, q92, q93]
                      apply hK
                      clear hK K
                      simp only [andThen, leaves]
                      refine DWp.region fun K hK => ?_
                      simp [-aBin', -aBin, -aBinI, -aUn, -aNil, -flatV, n_fn, b_add, b_sub, b_mul, b_lt, b_le, b_gt, b_ge, b_eq, b_ne, u_not, e2_1, e2_5, e2_6, e2_7, e2_8, e2_10, e2_13, e2_14, e2_23, e2_24, e2_68, e2_69]
                      apply hK
                      clear hK K
                      simp only [andThen, leaves]
                      have S94 := S80.pick [0, 1, 2, 3] (by decide) rfl
                      exact ⟨n2, Nat.lt_succ_self _, (lapp l4_3 [y4_69]), (ieq (gat 0 r2 y4_69) y4_69), (iadd .i64 y4_69 1), v83, hL64, S94, A81, by simp [e2_1, e2_5, e2_6, e2_7, e2_8, e2_10, e2_13, e2_14, e2_23, e2_24, e2_68, e2_69], by simp [e2_1, e2_5, e2_6, e2_7, e2_8, e2_10, e2_13, e2_14, e2_23, e2_24, e2_68, e2_69], by simp [e2_1, e2_5, e2_6, e2_7, e2_8, e2_10, e2_13, e2_14, e2_23, e2_24, e2_68, e2_69], by simp [e2_1, e2_5, e2_6, e2_7, e2_8, e2_10, e2_13, e2_14, e2_23, e2_24, e2_68, e2_69], by simp [e2_1, e2_5, e2_6, e2_7, e2_8, e2_10, e2_13, e2_14, e2_23, e2_24, e2_68, e2_69], by simp [e2_1, e2_5, e2_6, e2_7, e2_8, e2_10, e2_13, e2_14, e2_23, e2_24, e2_68, e2_69], by simp [e2_1, e2_5, e2_6, e2_7, e2_8, e2_10, e2_13, e2_14, e2_23, e2_24, e2_68, e2_69], by simp [e2_1, e2_5, e2_6, e2_7, e2_8, e2_10, e2_13, e2_14, e2_23, e2_24, e2_68, e2_69], by simp [e2_1, e2_5, e2_6, e2_7, e2_8, e2_10, e2_13, e2_14, e2_23, e2_24, e2_68, e2_69], by simp [e2_1, e2_5, e2_6, e2_7, e2_8, e2_10, e2_13, e2_14, e2_23, e2_24, e2_68, e2_69], by simp [e2_1, e2_5, e2_6, e2_7, e2_8, e2_10, e2_13, e2_14, e2_23, e2_24, e2_68, e2_69], by simp [e2_1, e2_5, e2_6, e2_7, e2_8, e2_10, e2_13, e2_14, e2_23, e2_24, e2_68, e2_69]⟩
                · replace hL64 := cd_f hb69 hL64
                  refine DWp.skip ?_
                  simp only [andThen, leaves]
                  refine DWp.region fun K hK => ?_
                  simp [-aBin', -aBin, -aBinI, -aUn, -aNil, -flatV, n_fn, b_add, b_sub, b_mul, b_lt, b_le, b_gt, b_ge, b_eq, b_ne, u_not, e2_1, e2_5, e2_6, e2_7, e2_8, e2_10, e2_13, e2_14, e2_23, e2_24, e2_68, e2_69]
                  apply hK
                  clear hK K
                  simp only [andThen, leaves]
                  have S95 := S2_.pick [0, 1, 2, 3] (by decide) rfl
                  exact ⟨n2, Nat.lt_succ_self _, l4_3, y4_14, (iadd .i64 y4_69 1), w4_3, hL64, S95, A2_, by simp [e2_1, e2_5, e2_6, e2_7, e2_8, e2_10, e2_13, e2_14, e2_23, e2_24, e2_68, e2_69], by simp [e2_1, e2_5, e2_6, e2_7, e2_8, e2_10, e2_13, e2_14, e2_23, e2_24, e2_68, e2_69], by simp [e2_1, e2_5, e2_6, e2_7, e2_8, e2_10, e2_13, e2_14, e2_23, e2_24, e2_68, e2_69], by simp [e2_1, e2_5, e2_6, e2_7, e2_8, e2_10, e2_13, e2_14, e2_23, e2_24, e2_68, e2_69], by simp [e2_1, e2_5, e2_6, e2_7, e2_8, e2_10, e2_13, e2_14, e2_23, e2_24, e2_68, e2_69], by simp [e2_1, e2_5, e2_6, e2_7, e2_8, e2_10, e2_13, e2_14, e2_23, e2_24, e2_68, e2_69], by simp [e2_1, e2_5, e2_6, e2_7, e2_8, e2_10, e2_13, e2_14, e2_23, e2_24, e2_68, e2_69], by simp [e2_1, e2_5, e2_6, e2_7, e2_8, e2_10, e2_13, e2_14, e2_23, e2_24, e2_68, e2_69], by simp [e2_1, e2_5, e2_6, e2_7, e2_8, e2_10, e2_13, e2_14, e2_23, e2_24, e2_68, e2_69], by simp [e2_1, e2_5, e2_6, e2_7, e2_8, e2_10, e2_13, e2_14, e2_23, e2_24, e2_68, e2_69], by simp [e2_1, e2_5, e2_6, e2_7, e2_8, e2_10, e2_13, e2_14, e2_23, e2_24, e2_68, e2_69], by simp [e2_1, e2_5, e2_6, e2_7, e2_8, e2_10, e2_13, e2_14, e2_23, e2_24, e2_68, e2_69]⟩
              · replace hL64 := cd_f hb66 hL64
                refine DWp.exit ?_
                simp only [andThen, leaves, if_true, if_false, reduceIte, Nat.reduceEqDiff]
                obtain rfl := Option.some.inj hL64
                try dsimp only at hL29
                refine DWp.seq ?_
                refine DWp.region fun K hK => ?_
                simp [-aBin', -aBin, -aBinI, -aUn, -aNil, -flatV, n_fn, b_add, b_sub, b_mul, b_lt, b_le, b_gt, b_ge, b_eq, b_ne, u_not, e2_1, e2_5, e2_6, e2_7, e2_8, e2_10, e2_13, e2_14, e2_23, e2_24, e2_68, e2_69, b_beq un_4]
                apply hK
                clear hK K
                simp only [andThen, leaves]
                refine DWp.cond' (t := (beq' y4_14 x1)) (by simp [e2_1, e2_5, e2_6, e2_7, e2_8, e2_10, e2_13, e2_14, e2_23, e2_24, e2_68, e2_69]) (fun hb96 => ?_) (fun hb96 => ?_)
                · replace hL29 := cd_t hb96 hL29
                  obtain ⟨v97, G98, q99, S100, a102, _, _⟩ := S2_.lit1 (P := Try.prog) (t := 46) (hB.le A2_.1) el_46 ei_22 rfl w4_3 ((S2_.sl (k := 3) rfl).tup) ((S2_.sl (k := 3) rfl).one)
                  have A101 := A2_.ext (hB.le A2_.1) a102
                  replace S100 : Sep G98 (Fr H) [flat c11_u0 3 (ints r1), flat c20_u0 3 (ints r2), rowsC w1_2 22 3 D1_2 (List.map ints l1_2), flat w4_3 3 (ints l4_3), flat1 v97 22 [w4_3]] := S100
                  obtain ⟨g103, hL29⟩ := gd_some hL29
                  obtain ⟨v109, G104, q105, S106, a108, q105t, _⟩ := S100.pushRow (fr := ints) (X := l1_2) (y := l4_3) (P := Try.prog) (t := 46) (t2 := 46) (j := 2) (k := 3) (by decide) rfl rfl (hB.le A101.1) el_46 el_46 ei_22 rfl (S100.sl1 (k := 4) rfl) g103
                  have A107 := A101.trans a108
                  replace S106 : Sep G104 (Fr H) [flat c11_u0 3 (ints r1), flat c20_u0 3 (ints r2), rowsC v109 22 3 (D1_2 ++ [w4_3]) (List.map ints (lapp l1_2 [l4_3])), emp, flat1 v97 22 [w4_3]] := S106
                  refine DWp.region fun K hK => ?_
                  simp [-aBin', -aBin, -aBinI, -aUn, -aNil, -flatV, n_fn, b_add, b_sub, b_mul, b_lt, b_le, b_gt, b_ge, b_eq, b_ne, u_not, e2_1, e2_5, e2_6, e2_7, e2_8, e2_10, e2_13, e2_14, e2_23, e2_24, e2_68, e2_69, q99, a102.to_pre, ((S2_.sl (k := 3) rfl).tup), q105, q105t]
                  apply hK
                  clear hK K
                  simp only [andThen, leaves]
                  refine DWp.region fun K hK => ?_
                  simp [-aBin', -aBin, -aBinI, -aUn, -aNil, -flatV, n_fn, b_add, b_sub, b_mul, b_lt, b_le, b_gt, b_ge, b_eq, b_ne, u_not, e2_1, e2_5, e2_6, e2_7, e2_8, e2_10, e2_13, e2_14, e2_23, e2_24, e2_68, e2_69]
                  apply hK
                  clear hK K
                  simp only [andThen, leaves]
                  have S110 := S106.pick [0, 1, 2] (by decide) rfl
                  exact ⟨n1, Nat.lt_succ_self _, (lapp l1_2 [l4_3]), (ior .i64 y1_8 y2_10), (iadd .i64 y1_24 1), v109, (D1_2 ++ [w4_3]), hL29, S110, A107, by simp [e2_1, e2_5, e2_6, e2_7, e2_8, e2_10, e2_13, e2_14, e2_23, e2_24, e2_68, e2_69], by simp [e2_1, e2_5, e2_6, e2_7, e2_8, e2_10, e2_13, e2_14, e2_23, e2_24, e2_68, e2_69], by simp [e2_1, e2_5, e2_6, e2_7, e2_8, e2_10, e2_13, e2_14, e2_23, e2_24, e2_68, e2_69], by simp [e2_1, e2_5, e2_6, e2_7, e2_8, e2_10, e2_13, e2_14, e2_23, e2_24, e2_68, e2_69], by simp [e2_1, e2_5, e2_6, e2_7, e2_8, e2_10, e2_13, e2_14, e2_23, e2_24, e2_68, e2_69], by simp [e2_1, e2_5, e2_6, e2_7, e2_8, e2_10, e2_13, e2_14, e2_23, e2_24, e2_68, e2_69], by simp [e2_1, e2_5, e2_6, e2_7, e2_8, e2_10, e2_13, e2_14, e2_23, e2_24, e2_68, e2_69]⟩
                · replace hL29 := cd_f hb96 hL29
                  refine DWp.skip ?_
                  simp only [andThen, leaves]
                  refine DWp.region fun K hK => ?_
                  simp [-aBin', -aBin, -aBinI, -aUn, -aNil, -flatV, n_fn, b_add, b_sub, b_mul, b_lt, b_le, b_gt, b_ge, b_eq, b_ne, u_not, e2_1, e2_5, e2_6, e2_7, e2_8, e2_10, e2_13, e2_14, e2_23, e2_24, e2_68, e2_69]
                  apply hK
                  clear hK K
                  simp only [andThen, leaves]
                  have S111 := S2_.pick [0, 1, 2] (by decide) rfl
                  exact ⟨n1, Nat.lt_succ_self _, l1_2, (ior .i64 y1_8 y2_10), (iadd .i64 y1_24 1), w1_2, D1_2, hL29, S111, A2_, by simp [e2_1, e2_5, e2_6, e2_7, e2_8, e2_10, e2_13, e2_14, e2_23, e2_24, e2_68, e2_69], by simp [e2_1, e2_5, e2_6, e2_7, e2_8, e2_10, e2_13, e2_14, e2_23, e2_24, e2_68, e2_69], by simp [e2_1, e2_5, e2_6, e2_7, e2_8, e2_10, e2_13, e2_14, e2_23, e2_24, e2_68, e2_69], by simp [e2_1, e2_5, e2_6, e2_7, e2_8, e2_10, e2_13, e2_14, e2_23, e2_24, e2_68, e2_69], by simp [e2_1, e2_5, e2_6, e2_7, e2_8, e2_10, e2_13, e2_14, e2_23, e2_24, e2_68, e2_69], by simp [e2_1, e2_5, e2_6, e2_7, e2_8, e2_10, e2_13, e2_14, e2_23, e2_24, e2_68, e2_69], by simp [e2_1, e2_5, e2_6, e2_7, e2_8, e2_10, e2_13, e2_14, e2_23, e2_24, e2_68, e2_69]⟩
    · replace hL29 := cd_f hb31 hL29
      refine DWp.exit ?_
      simp only [andThen, leaves, if_true, if_false, reduceIte, Nat.reduceEqDiff]
      obtain rfl := Option.some.inj hL29
      try dsimp only at hF
      refine DWp.seq ?_
      refine DWp.region fun K hK => ?_
      simp [-aBin', -aBin, -aBinI, -aUn, -aNil, -flatV, n_fn, b_add, b_sub, b_mul, b_lt, b_le, b_gt, b_ge, b_eq, b_ne, u_not, e1_1, e1_5, e1_6, e1_7, e1_8, e1_23, e1_24]
      apply hK
      clear hK K
      simp only [andThen, leaves]
      refine DWp.ret ?_
      obtain rfl := Option.some.inj hF
      exact ⟨by simp, [w1_2], by simp [e1_1, e1_5, e1_6, e1_7, e1_8, e1_23, e1_24, ((S1_.rd (k := 2) rfl).tup)], A1_, w1_2, D1_2, rfl, S1_.pick [2] (by decide) rfl⟩
/-! loop.example/g01126/spec.swIndex -/
def F_spec_swIndex (fu : Nat) (x0_0 : List Int) (x0_1 : List Int) : Option (Int) :=
  bd (F_spec_swTogether fu x0_0 x0_1 false) fun r1 =>
  bd (F_spec_swTogether fu x0_0 x0_1 true) fun r2 =>
  some (isub .i64 (iadd .i64 (imul .i64 2 (llen r1)) (llen r2)) 1)
theorem F_spec_swIndex_w {fu : Nat} {H : AH} {v0_0 : Value} {v0_1 : Value} {x0_0 : List Int} {x0_1 : List Int} {r : (Int)} (hx0_0 : Sl H v0_0 (ints x0_0)) (hx0_1 : Sl H v0_1 (ints x0_1)) (hF : F_spec_swIndex fu x0_0 x0_1 = some r) :
    ACallT Try.prog 63 [(Value.agg #[v0_0, v0_1])] H (fun u G => AgB (Fr H) H G ∧ u = (Value.int .i64 r) ∧ Sep G (Fr H) []) := by
  refine ACallT.of_body (nt := 12) (rs := [.tmp 2]) Try.func63 rfl rfl rfl rfl ?_
  have A0 : AgB (Fr H) H H := .refl _ _
  have S0 : Sep H (Fr H) [] := .nil
  have hB := Fr.up H
  unfold F_spec_swIndex at hF
  refine DWp.seq ?_
  obtain ⟨G2, p4, q5, q6, a7, S1⟩ := S0.boxT (hB.le A0.1) 26 [v0_0, v0_1]
  have A3 := A0.ext (hB.le A0.1) a7
  replace S1 : Sep G2 (Fr H) [AL.box p4 [v0_0, v0_1]] := S1
  refine DWp.region fun K hK => ?_
  simp [-aBin', -aBin, -aBinI, -aUn, -aNil, -flatV, n_fn, b_add, b_sub, b_mul, b_lt, b_le, b_gt, b_ge, b_eq, b_ne, u_not, q5, q6, a7.to_pre, cells_agg]
  apply hK
  clear hK K
  simp only [andThen, leaves]
  refine DWp.seq ?_
  have q8 := S1.loadAgg (P := Try.prog) (k := 0) rfl sz_26 ag_26 rfl
  obtain ⟨r1, hc9, hF⟩ := bd_some hF
  refine DWp.drawn (B := [0, 1, 3, 7, 0, 19, 51, 127, 255, 511]) 10 mixed (by kernel_rfl) (by decide) fun K hK => ?_
  simp [-aBin', -aBin, -aBinI, -aUn, -aNil, -flatV, n_fn, b_add, b_sub, b_mul, b_lt, b_le, b_gt, b_ge, b_eq, b_ne, u_not, q8, ((hx0_0.agree A3.agree).tup), ((hx0_1.agree A3.agree).tup)]
  refine CallD.t (F_spec_swTogether_w (fu := fu) (hx0_0.agree A3.agree) (hx0_1.agree A3.agree) hc9) ?_
  rintro c10_u0 G11 ⟨a14, _, c10_C0, rfl, S15⟩
  have A13 := A3.ext (hB.le A3.1) a14.agree
  have S12 : Sep G11 (Fr H) [AL.box p4 [v0_0, v0_1], rowsC c10_u0 22 3 c10_C0 (List.map ints r1)] := S1.app a14.agree S15 (fun _ h => h) (hB.le A3.1)
  have q16 := (S12.rd (k := 1) rfl).lenG (P := Try.prog) el_46
  have q17 := S12.loadAgg (P := Try.prog) (k := 0) rfl sz_26 ag_26 rfl
  obtain ⟨r2, hc18, hF⟩ := bd_some hF
  simp [-aBin', -aBin, -aBinI, -aUn, -aNil, -flatV, n_fn, b_add, b_sub, b_mul, b_lt, b_le, b_gt, b_ge, b_eq, b_ne, u_not, q8, a14.pre, q16, q17, ((hx0_0.agree A13.agree).tup), ((hx0_1.agree A13.agree).tup)]
  refine CallD.t (F_spec_swTogether_w (fu := fu) (hx0_0.agree A13.agree) (hx0_1.agree A13.agree) hc18) ?_
  rintro c19_u0 G20 ⟨a23, _, c19_C0, rfl, S24⟩
  have A22 := A13.ext (hB.le A13.1) a23.agree
  have S21 : Sep G20 (Fr H) [AL.box p4 [v0_0, v0_1], rowsC c10_u0 22 3 c10_C0 (List.map ints r1), rowsC c19_u0 22 3 c19_C0 (List.map ints r2)] := S12.app a23.agree S24 (fun _ h => h) (hB.le A13.1)
  have q25 := (S21.rd (k := 2) rfl).lenG (P := Try.prog) el_46
  simp [-aBin', -aBin, -aBinI, -aUn, -aNil, -flatV, n_fn, b_add, b_sub, b_mul, b_lt, b_le, b_gt, b_ge, b_eq, b_ne, u_not, q8, a14.pre, q16, q17, a23.pre, q25]
  apply hK
  clear hK K
  simp only [andThen, leaves]
  refine DWp.ret ?_
  obtain rfl := Option.some.inj hF
  exact ⟨by simp, [(Value.int .i64 (isub .i64 (iadd .i64 (imul .i64 2 (llen r1)) (llen r2)) 1))], by simp [], A22, rfl, S21.pick [] (by decide) rfl⟩
/-! loop.example/g01126/spec.CountByIndex -/
def F_spec_CountByIndex_L2 (fu : Nat) (k2_0 : List (List Int)) (k2_1 : List Int) (k2_2 : Int) (k2_3 : Int) : Nat → List Int → Int → Option (List Int × Int)
  | 0, _, _ => none
  | n + 1, l2_0, y2_27 =>
    bif (ilt y2_27 k2_2) then
      gd (inL k2_0 y2_27) (
      bd (F_spec_swIndex fu k2_1 (gat [] k2_0 y2_27)) fun r3 =>
      gd (inL l2_0 r3) (
      gd (inL l2_0 r3) (
      F_spec_CountByIndex_L2 fu k2_0 k2_1 k2_2 k2_3 n (lset l2_0 r3 (iadd .i64 (gat 0 l2_0 r3) 1)) (iadd .i64 y2_27 1))))
    else
      some (l2_0, y2_27)
def F_spec_CountByIndex_L1 (fu : Nat) (k1_0 : List (List Int)) (k1_1 : Int) : Nat → List Int → Int → Option (List Int × Int)
  | 0, _, _ => none
  | n + 1, l1_0, y1_21 =>
    bif (ilt y1_21 k1_1) then
      gd (inL k1_0 y1_21) (
      bd (F_spec_CountByIndex_L2 fu k1_0 (gat [] k1_0 y1_21) k1_1 y1_21 fu l1_0 0) fun s2 =>
      F_spec_CountByIndex_L1 fu k1_0 k1_1 n s2.1 (iadd .i64 y1_21 1))
    else
      some (l1_0, y1_21)
def F_spec_CountByIndex (fu : Nat) (x0 : Int) : Option (List Int × Bool) :=
  bd (F_spec_l1In fu x0 1 7) fun r1 =>
  bif (bnot r1) then
    some ([], false)
  else
    gd (0 ≤ (iadd .i64 (imul .i64 2 x0) 1) ∧ (iadd .i64 (imul .i64 2 x0) 1) ≤ 4294967296) (
    bd (F_spec_swAll fu x0) fun r2 =>
    bd (F_spec_CountByIndex_L1 fu r2 (llen r2) fu (lrep (iadd .i64 (imul .i64 2 x0) 1) 0) 0) fun s1 =>
    some (s1.1, true))
theorem F_spec_CountByIndex_w {fu : Nat} {H : AH}  {x0 : Int} {r : (List Int × Bool)}  (hF : F_spec_CountByIndex fu x0 = some r) :
    ACallT Try.prog 23 [(Value.int .i64 x0)] H (fun u G => AgB (Fr H) H G ∧ ∃ u0 : Value, u = (Value.tuple #[u0, (Value.bool r.2)]) ∧ Sep G (Fr H) [flat u0 3 (ints r.1)]) := by
  refine ACallT.of_body (nt := 43) (rs := [.tmp 2, .tmp 3]) Try.func23 rfl rfl rfl rfl ?_
  have A0 : AgB (Fr H) H H := .refl _ _
  have S0 : Sep H (Fr H) [] := .nil
  have hB := Fr.up H
  unfold F_spec_CountByIndex at hF
  refine DWp.seq ?_
  refine DWp.region fun K hK => ?_
  simp [-aBin', -aBin, -aBinI, -aUn, -aNil, -flatV, n_fn, b_add, b_sub, b_mul, b_lt, b_le, b_gt, b_ge, b_eq, b_ne, u_not]
  apply hK
  clear hK K
  simp only [andThen, leaves]
  refine DWp.seq ?_
  refine DWp.seq ?_
  obtain ⟨r1, hc1, hF⟩ := bd_some hF
  refine DWp.region fun K hK => ?_
  simp [-aBin', -aBin, -aBinI, -aUn, -aNil, -flatV, n_fn, b_add, b_sub, b_mul, b_lt, b_le, b_gt, b_ge, b_eq, b_ne, u_not]
  refine CallD.t (F_spec_l1In_w (fu := fu)  hc1) ?_
  rintro _ G3 ⟨a6, rfl, S7⟩
  have A5 := A0.ext (hB.le A0.1) a6.agree
  have S4 : Sep G3 (Fr H) [] := S0.app a6.agree S7 (fun _ h => h) (hB.le A0.1)
  simp [-aBin', -aBin, -aBinI, -aUn, -aNil, -flatV, n_fn, b_add, b_sub, b_mul, b_lt, b_le, b_gt, b_ge, b_eq, b_ne, u_not, a6.pre]
  apply hK
  clear hK K
  simp only [andThen, leaves]
  refine DWp.cond' (t := (bnot r1)) (by simp []) (fun hb8 => ?_) (fun hb8 => ?_)
  · replace hF := cd_t hb8 hF
    refine DWp.seq ?_
    refine DWp.region fun K hK => ?_
    simp [-aBin', -aBin, -aBinI, -aUn, -aNil, -flatV, n_fn, b_add, b_sub, b_mul, b_lt, b_le, b_gt, b_ge, b_eq, b_ne, u_not]
    apply hK
    clear hK K
    simp only [andThen, leaves]
    refine DWp.ret ?_
    simp only [andThen, leaves]
    have S9 := S4.nilItem (hB.le A5.1) 3
    obtain rfl := Option.some.inj hF
    exact ⟨by simp, [(Value.slice none 0 0), (Value.bool false)], by simp [], A5, (Value.slice none 0 0), rfl, S9.pick [0] (by decide) rfl⟩
  · replace hF := cd_f hb8 hF
    refine DWp.skip ?_
    simp only [andThen, leaves]
    refine DWp.seq ?_
    obtain ⟨g10, hF⟩ := gd_some hF
    obtain ⟨v11, G12, q13, S14, a16, _⟩ := S4.make (f := (Value.int .i64)) (P := Try.prog) (t := 22) (hB.le A5.1) el_22 ei_3 rfl 0 rfl g10
    have A15 := A5.ext (hB.le A5.1) a16
    replace S14 : Sep G12 (Fr H) [flat v11 3 (ints (lrep (iadd .i64 (imul .i64 2 x0) 1) 0))] := S14
    refine DWp.region fun K hK => ?_
    simp [-aBin', -aBin, -aBinI, -aUn, -aNil, -flatV, n_fn, b_add, b_sub, b_mul, b_lt, b_le, b_gt, b_ge, b_eq, b_ne, u_not, q13, a16.to_pre]
    apply hK
    clear hK K
    simp only [andThen, leaves]
    refine DWp.seq ?_
    obtain ⟨r2, hc17, hF⟩ := bd_some hF
    refine DWp.region fun K hK => ?_
    simp [-aBin', -aBin, -aBinI, -aUn, -aNil, -flatV, n_fn, b_add, b_sub, b_mul, b_lt, b_le, b_gt, b_ge, b_eq, b_ne, u_not]
    refine CallD.t (F_spec_swAll_w (fu := fu)  hc17) ?_
    rintro c18_u0 G19 ⟨a22, _, c18_C0, rfl, S23⟩
    have A21 := A15.ext (hB.le A15.1) a22.agree
    have S20 : Sep G19 (Fr H) [flat v11 3 (ints (lrep (iadd .i64 (imul .i64 2 x0) 1) 0)), rowsC c18_u0 22 3 c18_C0 (List.map ints r2)] := S14.app a22.agree S23 (fun _ h => h) (hB.le A15.1)
    simp [-aBin', -aBin, -aBinI, -aUn, -aNil, -flatV, n_fn, b_add, b_sub, b_mul, b_lt, b_le, b_gt, b_ge, b_eq, b_ne, u_not, a22.pre]
    apply hK
    clear hK K
    simp only [andThen, leaves]
    refine DWp.seq ?_
    refine DWp.seq ?_
    have q24 := (S20.rd (k := 1) rfl).lenG (P := Try.prog) el_46
    refine DWp.region fun K hK => ?_
    simp [-aBin', -aBin, -aBinI, -aUn, -aNil, -flatV, n_fn, b_add, b_sub, b_mul, b_lt, b_le, b_gt, b_ge, b_eq, b_ne, u_not, q24]
    apply hK
    clear hK K
    simp only [andThen, leaves]
    refine DWp.block ?_
    obtain ⟨s25, hL26, hF⟩ := bd_some hF
    have S27 := S20.pick [0, 1] (by decide) rfl
    refine DWp.loop (fun n env G => ∃ l1_0 : List Int, ∃ y1_21 : Int, F_spec_CountByIndex_L1 fu r2 (llen r2) n l1_0 y1_21 = some s25 ∧ Sep G (Fr H) [flat v11 3 (ints l1_0), rowsC c18_u0 22 3 c18_C0 (List.map ints r2)] ∧ AgB (Fr H) H G ∧ env 4 = some v11 ∧ env 5 = some c18_u0 ∧ env 19 = some c18_u0 ∧ env 20 = some (Value.int .i64 (llen r2)) ∧ env 21 = some (Value.int .i64 y1_21)) fu ⟨(lrep (iadd .i64 (imul .i64 2 x0) 1) 0), 0, hL26, S27, A21, by simp [], by simp [], by simp [], by simp [], by simp []⟩ ?_
    rintro n1 env1 G1_ ⟨l1_0, y1_21, hL26, S1_, A1_, e1_4, e1_5, e1_19, e1_20, e1_21⟩
    cases n1 with
    | zero => cases hL26
    | succ n1 =>
      simp only [F_spec_CountByIndex_L1] at hL26
      refine DWp.seq ?_
      refine DWp.region fun K hK => ?_
      simp [-aBin', -aBin, -aBinI, -aUn, -aNil, -flatV, n_fn, b_add, b_sub, b_mul, b_lt, b_le, b_gt, b_ge, b_eq, b_ne, u_not, e1_4, e1_5, e1_19, e1_20, e1_21]
      apply hK
      clear hK K
      simp only [andThen, leaves]
      refine DWp.seq ?_
      refine DWp.cond' (t := (ilt y1_21 (llen r2))) (by simp [e1_4, e1_5, e1_19, e1_20, e1_21]) (fun hb28 => ?_) (fun hb28 => ?_)
      · replace hL26 := cd_t hb28 hL26
        refine DWp.skip ?_
        simp only [andThen, leaves]
        refine DWp.seq ?_
        refine DWp.block ?_
        refine DWp.seq ?_
        obtain ⟨g29, hL26⟩ := gd_some hL26
        have q30 := (S1_.rd (k := 1) rfl).idxG (P := Try.prog) (kk := .i64) el_46 sz_22 g29
        have q31 := (S1_.rd (k := 1) rfl).loadG (P := Try.prog) sz_22 ag_22 g29
        refine DWp.region fun K hK => ?_
        simp [-aBin', -aBin, -aBinI, -aUn, -aNil, -flatV, n_fn, b_add, b_sub, b_mul, b_lt, b_le, b_gt, b_ge, b_eq, b_ne, u_not, e1_4, e1_5, e1_19, e1_20, e1_21, q30, q31]
        apply hK
        clear hK K
        simp only [andThen, leaves]
        refine DWp.seq ?_
        have q32 := (S1_.rd (k := 1) rfl).lenG (P := Try.prog) el_46
        refine DWp.region fun K hK => ?_
        simp [-aBin', -aBin, -aBinI, -aUn, -aNil, -flatV, n_fn, b_add, b_sub, b_mul, b_lt, b_le, b_gt, b_ge, b_eq, b_ne, u_not, e1_4, e1_5, e1_19, e1_20, e1_21, q32]
        apply hK
        clear hK K
        simp only [andThen, leaves]
        refine DWp.block ?_
        obtain ⟨s33, hL34, hL26⟩ := bd_some hL26
        have S35 := S1_.pick [0, 1] (by decide) rfl
        refine DWp.loop (fun n env G => ∃ l2_0 : List Int, ∃ y2_27 : Int, F_spec_CountByIndex_L2 fu r2 (gat [] r2 y1_21) (llen r2) y1_21 n l2_0 y2_27 = some s33 ∧ Sep G (Fr H) [flat v11 3 (ints l2_0), rowsC c18_u0 22 3 c18_C0 (List.map ints r2)] ∧ AgB (Fr H) H G ∧ env 4 = some v11 ∧ env 5 = some c18_u0 ∧ env 7 = some (gat nilV c18_C0 y1_21) ∧ env 19 = some c18_u0 ∧ env 20 = some (Value.int .i64 (llen r2)) ∧ env 21 = some (Value.int .i64 y1_21) ∧ env 25 = some c18_u0 ∧ env 26 = some (Value.int .i64 (llen r2)) ∧ env 27 = some (Value.int .i64 y2_27)) fu ⟨l1_0, 0, hL34, S35, A1_, by simp [e1_4, e1_5, e1_19, e1_20, e1_21], by simp [e1_4, e1_5, e1_19, e1_20, e1_21], by simp [e1_4, e1_5, e1_19, e1_20, e1_21], by simp [e1_4, e1_5, e1_19, e1_20, e1_21], by simp [e1_4, e1_5, e1_19, e1_20, e1_21], by simp [e1_4, e1_5, e1_19, e1_20, e1_21], by simp [e1_4, e1_5, e1_19, e1_20, e1_21], by simp [e1_4, e1_5, e1_19, e1_20, e1_21], by simp [e1_4, e1_5, e1_19, e1_20, e1_21]⟩ ?_
        rintro n2 env2 G2_ ⟨l2_0, y2_27, hL34, S2_, A2_, e2_4, e2_5, e2_7, e2_19, e2_20, e2_21, e2_25, e2_26, e2_27⟩
        cases n2 with
        | zero => cases hL34
        | succ n2 =>
          simp only [F_spec_CountByIndex_L2] at hL34
          refine DWp.seq ?_
          refine DWp.region fun K hK => ?_
          simp [-aBin', -aBin, -aBinI, -aUn, -aNil, -flatV, n_fn, b_add, b_sub, b_mul, b_lt, b_le, b_gt, b_ge, b_eq, b_ne, u_not, e2_4, e2_5, e2_7, e2_19, e2_20, e2_21, e2_25, e2_26, e2_27]
          apply hK
          clear hK K
          simp only [andThen, leaves]
          refine DWp.seq ?_
          refine DWp.cond' (t := (ilt y2_27 (llen r2))) (by simp [e2_4, e2_5, e2_7, e2_19, e2_20, e2_21, e2_25, e2_26, e2_27]) (fun hb36 => ?_) (fun hb36 => ?_)
          · replace hL34 := cd_t hb36 hL34
            refine DWp.skip ?_
            simp only [andThen, leaves]
            refine DWp.seq ?_
            refine DWp.block ?_
            refine DWp.seq ?_
            obtain ⟨g37, hL34⟩ := gd_some hL34
            have q38 := (S2_.rd (k := 1) rfl).idxG (P := Try.prog) (kk := .i64) el_46 sz_22 g37
            have q39 := (S2_.rd (k := 1) rfl).loadG (P := Try.prog) sz_22 ag_22 g37
            refine DWp.region fun K hK => ?_
            simp [-aBin', -aBin, -aBinI, -aUn, -aNil, -flatV, n_fn, b_add, b_sub, b_mul, b_lt, b_le, b_gt, b_ge, b_eq, b_ne, u_not, e2_4, e2_5, e2_7, e2_19, e2_20, e2_21, e2_25, e2_26, e2_27, q38, q39]
            apply hK
            clear hK K
            simp only [andThen, leaves]
            obtain ⟨r3, hc40, hL34⟩ := bd_some hL34
            refine DWp.region fun K hK => ?_
            simp [-aBin', -aBin, -aBinI, -aUn, -aNil, -flatV, n_fn, b_add, b_sub, b_mul, b_lt, b_le, b_gt, b_ge, b_eq, b_ne, u_not, e2_4, e2_5, e2_7, e2_19, e2_20, e2_21, e2_25, e2_26, e2_27, bu_26 (((S2_.rd (k := 1) rfl).rowAt [] g29).tup) (((S2_.rd (k := 1) rfl).rowAt [] g29).one) (((S2_.rd (k := 1) rfl).rowAt [] g37).tup) (((S2_.rd (k := 1) rfl).rowAt [] g37).one), (((S2_.rd (k := 1) rfl).rowAt [] g29).tup), (((S2_.rd (k := 1) rfl).rowAt [] g37).tup)]
            refine CallD.t (F_spec_swIndex_w (fu := fu) ((S2_.rd (k := 1) rfl).rowAt [] g29) ((S2_.rd (k := 1) rfl).rowAt [] g37) hc40) ?_
            rintro _ G42 ⟨a45, rfl, S46⟩
            have A44 := A2_.ext (hB.le A2_.1) a45.agree
            have S43 : Sep G42 (Fr H) [flat v11 3 (ints l2_0), rowsC c18_u0 22 3 c18_C0 (List.map ints r2)] := S2_.app a45.agree S46 (fun _ h => h) (hB.le A2_.1)
            obtain ⟨g47, hL34⟩ := gd_some hL34
            have q48 := idxG (P := Try.prog) (kk := .i64) (S43.sl (k := 0) rfl) el_22 sz_3 g47
            have q49 := loadG (P := Try.prog) (S43.sl (k := 0) rfl) sz_3 ag_3 g47 0
            obtain ⟨g50, hL34⟩ := gd_some hL34
            have q51 := idxG (P := Try.prog) (kk := .i64) (S43.sl (k := 0) rfl) el_22 sz_3 g50
            obtain ⟨G52, q53, S54, a56⟩ := S43.storeG (f := (Value.int .i64)) (P := Try.prog) (k := 0) (x := (iadd .i64 (gat 0 l2_0 r3) 1)) rfl (hB.le A44.1) sz_3 g50 rfl rfl
            have A55 := A44.trans a56
            replace S54 : Sep G52 (Fr H) [flat v11 3 (ints (lset l2_0 r3 (iadd .i64 (gat 0 l2_0 r3) 1))), rowsC c18_u0 22 3 c18_C0 (List.map ints r2)] := S54
            simp [-aBin', -aBin, -aBinI, -aUn, -aNil, -flatV, n_fn, b_add, b_sub, b_mul, b_lt, b_le, b_gt, b_ge, b_eq, b_ne, u_not, e2_4, e2_5, e2_7, e2_19, e2_20, e2_21, e2_25, e2_26, e2_27, bu_26 (((S2_.rd (k := 1) rfl).rowAt [] g29).tup) (((S2_.rd (k := 1) rfl).rowAt [] g29).one) (((S2_.rd (k := 1) rfl).rowAt [] g37).tup) (((S2_.rd (k := 1) rfl).rowAt [] g37).one), a45.pre, q48, q49, q51, q53]
            apply hK
            clear hK K
            simp only [andThen, leaves]
            refine DWp.region fun K hK => ?_
            simp [-aBin', -aBin, -aBinI, -aUn, -aNil, -flatV, n_fn, b_add, b_sub, b_mul, b_lt, b_le, b_gt, b_ge, b_eq, b_ne, u_not, e2_4, e2_5, e2_7, e2_19, e2_20, e2_21, e2_25, e2_26, e2_27]
            apply hK
            clear hK K
            simp only [andThen, leaves]
            have S57 := S54.pick [0, 1] (by decide) rfl
            exact ⟨n2, Nat.lt_succ_self _, (lset l2_0 r3 (iadd .i64 (gat 0 l2_0 r3) 1)), (iadd .i64 y2_27 1), hL34, S57, A55, by simp [e2_4, e2_5, e2_7, e2_19, e2_20, e2_21, e2_25, e2_26, e2_27], by simp [e2_4, e2_5, e2_7, e2_19, e2_20, e2_21, e2_25, e2_26, e2_27], by simp [e2_4, e2_5, e2_7, e2_19, e2_20, e2_21, e2_25, e2_26, e2_27], by simp [e2_4, e2_5, e2_7, e2_19, e2_20, e2_21, e2_25, e2_26, e2_27], by simp [e2_4, e2_5, e2_7, e2_19, e2_20, e2_21, e2_25, e2_26, e2_27], by simp [e2_4, e2_5, e2_7, e2_19, e2_20, e2_21, e2_25, e2_26, e2_27], by simp [e2_4, e2_5, e2_7, e2_19, e2_20, e2_21, e2_25, e2_26, e2_27], by simp [e2_4, e2_5, e2_7, e2_19, e2_20, e2_21, e2_25, e2_26, e2_27], by simp [e2_4, e2_5, e2_7, e2_19, e2_20, e2_21, e2_25, e2_26, e2_27]⟩
          · replace hL34 := cd_f hb36 hL34
            refine DWp.exit ?_
            simp only [andThen, leaves, if_true, if_false, reduceIte, Nat.reduceEqDiff]
            obtain rfl := Option.some.inj hL34
            try dsimp only at hL26
            refine DWp.region fun K hK => ?_
            simp [-aBin', -aBin, -aBinI, -aUn, -aNil, -flatV, n_fn, b_add, b_sub, b_mul, b_lt, b_le, b_gt, b_ge, b_eq, b_ne, u_not, e2_4, e2_5, e2_7, e2_19, e2_20, e2_21, e2_25, e2_26, e2_27]
            apply hK
            clear hK K
            simp only [andThen, leaves]
            have S58 := S2_.pick [0, 1] (by decide) rfl
            exact ⟨n1, Nat.lt_succ_self _, l2_0, (iadd .i64 y1_21 1), hL26, S58, A2_, by simp [e2_4, e2_5, e2_7, e2_19, e2_20, e2_21, e2_25, e2_26, e2_27], by simp [e2_4, e2_5, e2_7, e2_19, e2_20, e2_21, e2_25, e2_26, e2_27], by simp [e2_4, e2_5, e2_7, e2_19, e2_20, e2_21, e2_25, e2_26, e2_27], by simp [e2_4, e2_5, e2_7, e2_19, e2_20, e2_21, e2_25, e2_26, e2_27], by simp [e2_4, e2_5, e2_7, e2_19, e2_20, e2_21, e2_25, e2_26, e2_27]⟩
      · replace hL26 := cd_f hb28 hL26
        refine DWp.exit ?_
        simp only [andThen, leaves, if_true, if_false, reduceIte, Nat.reduceEqDiff]
        obtain rfl := Option.some.inj hL26
        try dsimp only at hF
        refine DWp.seq ?_
        refine DWp.region fun K hK => ?_
        simp [-aBin', -aBin, -aBinI, -aUn, -aNil, -flatV, n_fn, b_add, b_sub, b_mul, b_lt, b_le, b_gt, b_ge, b_eq, b_ne, u_not, e1_4, e1_5, e1_19, e1_20, e1_21]
        apply hK
        clear hK K
        simp only [andThen, leaves]
        refine DWp.ret ?_
        obtain rfl := Option.some.inj hF
        exact ⟨by simp, [v11, (Value.bool true)], by simp [e1_4, e1_5, e1_19, e1_20, e1_21, ((S1_.sl (k := 0) rfl).tup)], A1_, v11, rfl, S1_.pick [0] (by decide) rfl⟩
/-! loop.example/g01126/impl.allParts -/
def F_impl_allParts_L2 (fu : Nat) (self_ : Int → Option (List (List Int))) (k2_0 : Int) (k2_1 : Int) (k2_2 : List (List Int)) (k2_3 : Int) : Nat → List (List Int) → Int → Option (List (List Int) × Int)
  | 0, _, _ => none
  | n + 1, l2_0, y2_22 =>
    bif (ilt y2_22 k2_3) then
      gd (inL k2_2 y2_22) (
      gd ([k2_1].length + (gat [] k2_2 y2_22).length ≤ 4294967296) (
      gd (l2_0.length + 1 ≤ 4294967296) (
      F_impl_allParts_L2 fu self_ k2_0 k2_1 k2_2 k2_3 n (lapp l2_0 [(lapp [k2_1] (gat [] k2_2 y2_22))]) (iadd .i64 y2_22 1))))
    else
      some (l2_0, y2_22)
def F_impl_allParts_L1 (fu : Nat) (self_ : Int → Option (List (List Int))) (k1_0 : Int) : Nat → List (List Int) → Int → Option (List (List Int) × Int)
  | 0, _, _ => none
  | n + 1, l1_0, y1_4 =>
    bif (ile y1_4 k1_0) then
      bd (self_ (isub .i64 k1_0 y1_4)) fun r1 =>
      bd (F_impl_allParts_L2 fu self_ k1_0 y1_4 r1 (llen r1) fu l1_0 0) fun s2 =>
      F_impl_allParts_L1 fu self_ k1_0 n s2.1 (iadd .i64 y1_4 1)
    else
      some (l1_0, y1_4)
def F_impl_allParts : Nat → Int → Option (List (List Int))
  | 0, _ => none
  | fu + 1, x0 =>
    bif (ieq x0 0) then
      some [(@List.nil Int)]
    else
      bd (F_impl_allParts_L1 fu (F_impl_allParts fu) x0 fu [] 1) fun s1 =>
      some s1.1
theorem F_impl_allParts_w : ∀ {fu : Nat} {H : AH}  {x0 : Int} {r : (List (List Int))}  (hF : F_impl_allParts fu x0 = some r),
    ACallT Try.prog 65 [(Value.int .i64 x0)] H (fun u G => AgB (Fr H) H G ∧ ∃ u0 : Value, ∃ C0 : List Value, u = u0 ∧ Sep G (Fr H) [rowsC u0 22 3 C0 (List.map ints r)]) := by
  intro fu
  induction fu with
  | zero => intros; rename_i hF; cases hF
  | succ fu ih =>
  intro H  x0 r  hF
  simp only [F_impl_allParts] at hF
  refine ACallT.of_body (nt := 35) (rs := [.tmp 2]) Try.func65 rfl rfl rfl rfl ?_
  have A0 : AgB (Fr H) H H := .refl _ _
  have S0 : Sep H (Fr H) [] := .nil
  have hB := Fr.up H
  refine DWp.seq ?_
  refine DWp.region fun K hK => ?_
  simp [-aBin', -aBin, -aBinI, -aUn, -aNil, -flatV, n_fn, b_add, b_sub, b_mul, b_lt, b_le, b_gt, b_ge, b_eq, b_ne, u_not]
  apply hK
  clear hK K
  simp only [andThen, leaves]
  refine DWp.seq ?_
  refine DWp.seq ?_
  refine DWp.region fun K hK => ?_
  simp [-aBin', -aBin, -aBinI, -aUn, -aNil, -flatV, n_fn, b_add, b_sub, b_mul, b_lt, b_le, b_gt, b_ge, b_eq, b_ne, u_not]
  apply hK
  clear hK K
  simp only [andThen, leaves]
  refine DWp.cond' (t := (ieq x0 0)) (by simp []) (fun hb1 => ?_) (fun hb1 => ?_)
  · replace hF := cd_t hb1 hF
    refine DWp.seq ?_
    obtain ⟨v2, G3, q4, S5, a7, _, _⟩ := S0.lit0 (P := Try.prog) (t := 22) (hB.le A0.1) el_22 ei_3 rfl
    have A6 := A0.ext (hB.le A0.1) a7
    replace S5 : Sep G3 (Fr H) [flat1 v2 3 (ints (@List.nil Int))] := S5
    obtain ⟨v9, G10, q11, S12, a14, _, _⟩ := S5.lit1 (P := Try.prog) (t := 46) (hB.le A6.1) el_46 ei_22 rfl v2 ((S5.sl1 (k := 0) rfl).tup) ((S5.sl1 (k := 0) rfl).one)
    have A13 := A6.ext (hB.le A6.1) a14
    replace S12 : Sep G10 (Fr H) [flat1 v2 3 (ints (@List.nil Int)), flat1 v9 22 [v2]] := S12
    refine DWp.region fun K hK => ?_
    simp [-aBin', -aBin, -aBinI, -aUn, -aNil, -flatV, n_fn, b_add, b_sub, b_mul, b_lt, b_le, b_gt, b_ge, b_eq, b_ne, u_not, q4, a7.to_pre, q11, a14.to_pre, ((S5.sl1 (k := 0) rfl).tup)]
    apply hK
    clear hK K
    simp only [andThen, leaves]
    refine DWp.ret ?_
    simp only [andThen, leaves]
    have S15 := S12.weak (k := 0) rfl
    have S16 : Sep G10 (Fr H) [emp, rowsC v9 22 3 [v2] (List.map ints [(@List.nil Int)])] := S15.rowsOf1 (j := 1) (k := 0) (by decide) rfl rfl
    obtain rfl := Option.some.inj hF
    exact ⟨by simp, [v9], by simp [((S16.rd (k := 1) rfl).tup)], A13, v9, [v2], rfl, S16.pick [1] (by decide) rfl⟩
  · replace hF := cd_f hb1 hF
    refine DWp.skip ?_
    simp only [andThen, leaves]
    refine DWp.seq ?_
    obtain ⟨v17, G18, q19, S20, a22, _, _⟩ := S0.lit0 (P := Try.prog) (t := 46) (hB.le A0.1) el_46 ei_22 rfl
    have A21 := A0.ext (hB.le A0.1) a22
    replace S20 : Sep G18 (Fr H) [flat1 v17 22 []] := S20
    have S23 : Sep G18 (Fr H) [rowsC v17 22 3 [] (List.map ints [])] := S20.rowsOf0 (k := 0) rfl 3
    refine DWp.region fun K hK => ?_
    simp [-aBin', -aBin, -aBinI, -aUn, -aNil, -flatV, n_fn, b_add, b_sub, b_mul, b_lt, b_le, b_gt, b_ge, b_eq, b_ne, u_not, q19, a22.to_pre]
    apply hK
    clear hK K
    simp only [andThen, leaves]
    refine DWp.seq ?_
    refine DWp.seq ?_
    refine DWp.region fun K hK => ?_
    simp [-aBin', -aBin, -aBinI, -aUn, -aNil, -flatV, n_fn, b_add, b_sub, b_mul, b_lt, b_le, b_gt, b_ge, b_eq, b_ne, u_not]
    apply hK
    clear hK K
    simp only [andThen, leaves]
    refine DWp.block ?_
    obtain ⟨s24, hL25, hF⟩ := bd_some hF
    have S26 := S23.pick [0] (by decide) rfl
    refine DWp.loop (fun n env G => ∃ l1_0 : List (List Int), ∃ y1_4 : Int, ∃ w1_0 : Value, ∃ D1_0 : List Value, F_impl_allParts_L1 fu (F_impl_allParts fu) x0 n l1_0 y1_4 = some s24 ∧ Sep G (Fr H) [rowsC w1_0 22 3 D1_0 (List.map ints l1_0)] ∧ AgB (Fr H) H G ∧ env 0 = some (Value.int .i64 x0) ∧ env 3 = some w1_0 ∧ env 4 = some (Value.int .i64 y1_4)) fu ⟨[], 1, v17, [], hL25, S26, A21, by simp [], by simp [], by simp []⟩ ?_
    rintro n1 env1 G1_ ⟨l1_0, y1_4, w1_0, D1_0, hL25, S1_, A1_, e1_0, e1_3, e1_4⟩
    cases n1 with
    | zero => cases hL25
    | succ n1 =>
      simp only [F_impl_allParts_L1] at hL25
      refine DWp.seq ?_
      refine DWp.seq ?_
      refine DWp.region fun K hK => ?_
      simp [-aBin', -aBin, -aBinI, -aUn, -aNil, -flatV, n_fn, b_add, b_sub, b_mul, b_lt, b_le, b_gt, b_ge, b_eq, b_ne, u_not, e1_0, e1_3, e1_4]
      apply hK
      clear hK K
      simp only [andThen, leaves]
      refine DWp.cond' (t := (ile y1_4 x0)) (by simp [e1_0, e1_3, e1_4]) (fun hb27 => ?_) (fun hb27 => ?_)
      · replace hL25 := cd_t hb27 hL25
        refine DWp.skip ?_
        simp only [andThen, leaves]
        refine DWp.seq ?_
        refine DWp.block ?_
        refine DWp.seq ?_
        obtain ⟨r1, hc28, hL25⟩ := bd_some hL25
        refine DWp.region fun K hK => ?_
        simp [-aBin', -aBin, -aBinI, -aUn, -aNil, -flatV, n_fn, b_add, b_sub, b_mul, b_lt, b_le, b_gt, b_ge, b_eq, b_ne, u_not, e1_0, e1_3, e1_4]
        refine CallD.t (ih  hc28) ?_
        rintro c29_u0 G30 ⟨a33, _, c29_C0, rfl, S34⟩
        have A32 := A1_.ext (hB.le A1_.1) a33.agree
        have S31 : Sep G30 (Fr H) [rowsC w1_0 22 3 D1_0 (List.map ints l1_0), rowsC c29_u0 22 3 c29_C0 (List.map ints r1)] := S1_.app a33.agree S34 (fun _ h => h) (hB.le A1_.1)
        have q35 := (S31.rd (k := 1) rfl).lenG (P := Try.prog) el_46
        simp [-aBin', -aBin, -aBinI, -aUn, -aNil, -flatV, n_fn, b_add, b_sub, b_mul, b_lt, b_le, b_gt, b_ge, b_eq, b_ne, u_not, e1_0, e1_3, e1_4, a33.pre, q35]
        apply hK
        clear hK K
        simp only [andThen, leaves]
        refine DWp.block ?_
        obtain ⟨s36, hL37, hL25⟩ := bd_some hL25
        have S38 := S31.pick [0, 1] (by decide) rfl
        refine DWp.loop (fun n env G => ∃ l2_0 : List (List Int), ∃ y2_22 : Int, ∃ w2_0 : Value, ∃ D2_0 : List Value, F_impl_allParts_L2 fu (F_impl_allParts fu) x0 y1_4 r1 (llen r1) n l2_0 y2_22 = some s36 ∧ Sep G (Fr H) [rowsC w2_0 22 3 D2_0 (List.map ints l2_0), rowsC c29_u0 22 3 c29_C0 (List.map ints r1)] ∧ AgB (Fr H) H G ∧ env 0 = some (Value.int .i64 x0) ∧ env 3 = some w2_0 ∧ env 4 = some (Value.int .i64 y1_4) ∧ env 20 = some c29_u0 ∧ env 21 = some (Value.int .i64 (llen r1)) ∧ env 22 = some (Value.int .i64 y2_22)) fu ⟨l1_0, 0, w1_0, D1_0, hL37, S38, A32, by simp [e1_0, e1_3, e1_4], by simp [e1_0, e1_3, e1_4], by simp [e1_0, e1_3, e1_4], by simp [e1_0, e1_3, e1_4], by simp [e1_0, e1_3, e1_4], by simp [e1_0, e1_3, e1_4]⟩ ?_
        rintro n2 env2 G2_ ⟨l2_0, y2_22, w2_0, D2_0, hL37, S2_, A2_, e2_0, e2_3, e2_4, e2_20, e2_21, e2_22⟩
        cases n2 with
        | zero => cases hL37
        | succ n2 =>
          simp only [F_impl_allParts_L2] at hL37
          refine DWp.seq ?_
          refine DWp.region fun K hK => ?_
          simp [-aBin', -aBin, -aBinI, -aUn, -aNil, -flatV, n_fn, b_add, b_sub, b_mul, b_lt, b_le, b_gt, b_ge, b_eq, b_ne, u_not, e2_0, e2_3, e2_4, e2_20, e2_21, e2_22]
          apply hK
          clear hK K
          simp only [andThen, leaves]
          refine DWp.seq ?_
          refine DWp.cond' (t := (ilt y2_22 (llen r1))) (by simp [e2_0, e2_3, e2_4, e2_20, e2_21, e2_22]) (fun hb39 => ?_) (fun hb39 => ?_)
          · replace hL37 := cd_t hb39 hL37
            refine DWp.skip ?_
            simp only [andThen, leaves]
            refine DWp.seq ?_
            refine DWp.block ?_
            refine DWp.seq ?_
            obtain ⟨g40, hL37⟩ := gd_some hL37
            have q41 := (S2_.rd (k := 1) rfl).idxG (P := Try.prog) (kk := .i64) el_46 sz_22 g40
            have q42 := (S2_.rd (k := 1) rfl).loadG (P := Try.prog) sz_22 ag_22 g40
            refine DWp.region fun K hK => ?_
            simp [-aBin', -aBin, -aBinI, -aUn, -aNil, -flatV, n_fn, b_add, b_sub, b_mul, b_lt, b_le, b_gt, b_ge, b_eq, b_ne, u_not, e2_0, e2_3, e2_4, e2_20, e2_21, e2_22, q41, q42]
            apply hK
            clear hK K
            simp only [andThen, leaves]
            obtain ⟨v43, G44, q45, S46, a48, _, _⟩ := S2_.lit1 (P := Try.prog) (t := 22) (hB.le A2_.1) el_22 ei_3 rfl (Value.int .i64 y1_4) rfl rfl
            have A47 := A2_.ext (hB.le A2_.1) a48
            replace S46 : Sep G44 (Fr H) [rowsC w2_0 22 3 D2_0 (List.map ints l2_0), rowsC c29_u0 22 3 c29_C0 (List.map ints r1), flat1 v43 3 (ints [y1_4])] := S46
            obtain ⟨g50, hL37⟩ := gd_some hL37
            obtain ⟨v56, G51, q52, S53, a55, _, _⟩ := S46.append1 (f := (Value.int .i64)) (xs := [y1_4]) (ys := (gat [] r1 y2_22)) (P := Try.prog) (t := 22) (t2 := 22) (k := 2) rfl (hB.le A47.1) el_22 el_22 ei_3 rfl ((S46.rd (k := 1) rfl).rowAt [] g40) g50
            have A54 := A47.trans a55
            replace S53 : Sep G51 (Fr H) [rowsC w2_0 22 3 D2_0 (List.map ints l2_0), rowsC c29_u0 22 3 c29_C0 (List.map ints r1), flat v56 3 (ints (lapp [y1_4] (gat [] r1 y2_22)))] := S53
            obtain ⟨v57, G58, q59, S60, a62, _, _⟩ := S53.lit1 (P := Try.prog) (t := 46) (hB.le A54.1) el_46 ei_22 rfl v56 ((S53.sl (k := 2) rfl).tup) ((S53.sl (k := 2) rfl).one)
            have A61 := A54.ext (hB.le A54.1) a62
            replace S60 : Sep G58 (Fr H) [rowsC w2_0 22 3 D2_0 (List.map ints l2_0), rowsC c29_u0 22 3 c29_C0 (List.map ints r1), flat v56 3 (ints (lapp [y1_4] (gat [] r1 y2_22))), flat1 v57 22 [v56]] := S60
            obtain ⟨g63, hL37⟩ := gd_some hL37
            obtain ⟨v69, G64, q65, S66, a68, q65t, _⟩ := S60.pushRow (fr := ints) (X := l2_0) (y := (lapp [y1_4] (gat [] r1 y2_22))) (P := Try.prog) (t := 46) (t2 := 46) (j := 0) (k := 2) (by decide) rfl rfl (hB.le A61.1) el_46 el_46 ei_22 rfl (S60.sl1 (k := 3) rfl) g63
            have A67 := A61.trans a68
            replace S66 : Sep G64 (Fr H) [rowsC v69 22 3 (D2_0 ++ [v56]) (List.map ints (lapp l2_0 [(lapp [y1_4] (gat [] r1 y2_22))])), rowsC c29_u0 22 3 c29_C0 (List.map ints r1), emp, flat1 v57 22 [v56]] := S66
            refine DWp.region fun K hK => ?_
            simp [-aBin', -aBin, -aBinI, -aUn, -aNil, -flatV, n_fn, b_add, b_sub, b_mul, b_lt, b_le, b_gt, b_ge, b_eq, b_ne, u_not, e2_0, e2_3, e2_4, e2_20, e2_21, e2_22, q45, a48.to_pre, q52, q59, a62.to_pre, ((S53.sl (k := 2) rfl).tup), q65, q65t]
            apply hK
            clear hK K
            simp only [andThen, leaves]
            refine DWp.region fun K hK => ?_
            simp [-aBin', -aBin, -aBinI, -aUn, -aNil, -flatV, n_fn, b_add, b_sub, b_mul, b_lt, b_le, b_gt, b_ge, b_eq, b_ne, u_not, e2_0, e2_3, e2_4, e2_20, e2_21, e2_22]
            apply hK
            clear hK K
            simp only [andThen, leaves]
            have S70 := S66.pick [0, 1] (by decide) rfl
            exact ⟨n2, Nat.lt_succ_self _, (lapp l2_0 [(lapp [y1_4] (gat [] r1 y2_22))]), (iadd .i64 y2_22 1), v69, (D2_0 ++ [v56]), hL37, S70, A67, by simp [e2_0, e2_3, e2_4, e2_20, e2_21, e2_22], by simp [e2_0, e2_3, e2_4, e2_20, e2_21, e2_22], by simp [e2_0, e2_3, e2_4, e2_20, e2_21, e2_22], by simp [e2_0, e2_3, e2_4, e2_20, e2_21, e2_22], by simp [e2_0, e2_3, e2_4, e2_20, e2_21, e2_22], by simp [e2_0, e2_3, e2_4, e2_20, e2_21, e2_22]⟩
          · replace hL37 := cd_f hb39 hL37
            refine DWp.exit ?_
            simp only [andThen, leaves, if_true, if_false, reduceIte, Nat.reduceEqDiff]
            obtain rfl := Option.some.inj hL37
            try dsimp only at hL25
            refine DWp.region fun K hK => ?_
            simp [-aBin', -aBin, -aBinI, -aUn, -aNil, -flatV, n_fn, b_add, b_sub, b_mul, b_lt, b_le, b_gt, b_ge, b_eq, b_ne, u_not, e2_0, e2_3, e2_4, e2_20, e2_21, e2_22]
            apply hK
            clear hK K
            simp only [andThen, leaves]
            have S71 := S2_.pick [0] (by decide) rfl
            exact ⟨n1, Nat.lt_succ_self _, l2_0, (iadd .i64 y1_4 1), w2_0, D2_0, hL25, S71, A2_, by simp [e2_0, e2_3, e2_4, e2_20, e2_21, e2_22], by simp [e2_0, e2_3, e2_4, e2_20, e2_21, e2_22], by simp [e2_0, e2_3, e2_4, e2_20, e2_21, e2_22]⟩
      · replace hL25 := cd_f hb27 hL25
        refine DWp.exit ?_
        simp only [andThen, leaves, if_true, if_false, reduceIte, Nat.reduceEqDiff]
        obtain rfl := Option.some.inj hL25
        try dsimp only at hF
        refine DWp.seq ?_
        refine DWp.region fun K hK => ?_
        simp [-aBin', -aBin, -aBinI, -aUn, -aNil, -flatV, n_fn, b_add, b_sub, b_mul, b_lt, b_le, b_gt, b_ge, b_eq, b_ne, u_not, e1_0, e1_3, e1_4]
        apply hK
        clear hK K
        simp only [andThen, leaves]
        refine DWp.ret ?_
        obtain rfl := Option.some.inj hF
        exact ⟨by simp, [w1_0], by simp [e1_0, e1_3, e1_4, ((S1_.rd (k := 0) rfl).tup)], A1_, w1_0, D1_0, rfl, S1_.pick [0] (by decide) rfl⟩
/-! loop.example/g01126/impl.CountByIndex -/
def F_impl_CountByIndex_L2 (fu : Nat) (k2_0 : List (List Int)) (k2_1 : List Int) (k2_2 : Int) (k2_3 : Int) : Nat → List Int → Int → Option (List Int × Int)
  | 0, _, _ => none
  | n + 1, l2_0, y2_27 =>
    bif (ilt y2_27 k2_2) then
      gd (inL k2_0 y2_27) (
      bd (F_impl_Seaweed_index fu k2_1 (gat [] k2_0 y2_27)) fun r3 =>
      gd (inL l2_0 r3) (
      gd (inL l2_0 r3) (
      F_impl_CountByIndex_L2 fu k2_0 k2_1 k2_2 k2_3 n (lset l2_0 r3 (iadd .i64 (gat 0 l2_0 r3) 1)) (iadd .i64 y2_27 1))))
    else
      some (l2_0, y2_27)
def F_impl_CountByIndex_L1 (fu : Nat) (k1_0 : List (List Int)) (k1_1 : Int) : Nat → List Int → Int → Option (List Int × Int)
  | 0, _, _ => none
  | n + 1, l1_0, y1_21 =>
    bif (ilt y1_21 k1_1) then
      gd (inL k1_0 y1_21) (
      bd (F_impl_CountByIndex_L2 fu k1_0 (gat [] k1_0 y1_21) k1_1 y1_21 fu l1_0 0) fun s2 =>
      F_impl_CountByIndex_L1 fu k1_0 k1_1 n s2.1 (iadd .i64 y1_21 1))
    else
      some (l1_0, y1_21)
def F_impl_CountByIndex (fu : Nat) (x0 : Int) : Option (List Int × Bool) :=
  bd (F_impl_in fu x0 1 7) fun r1 =>
  bif (bnot r1) then
    some ([], false)
  else
    gd (0 ≤ (iadd .i64 (imul .i64 2 x0) 1) ∧ (iadd .i64 (imul .i64 2 x0) 1) ≤ 4294967296) (
    bd (F_impl_allParts fu x0) fun r2 =>
    bd (F_impl_CountByIndex_L1 fu r2 (llen r2) fu (lrep (iadd .i64 (imul .i64 2 x0) 1) 0) 0) fun s1 =>
    some (s1.1, true))
theorem F_impl_CountByIndex_w {fu : Nat} {H : AH}  {x0 : Int} {r : (List Int × Bool)}  (hF : F_impl_CountByIndex fu x0 = some r) :
    ACallT Try.prog 24 [(Value.int .i64 x0)] H (fun u G => AgB (Fr H) H G ∧ ∃ u0 : Value, u = (Value.tuple #[u0, (Value.bool r.2)]) ∧ Sep G (Fr H) [flat u0 3 (ints r.1)]) := by
  refine ACallT.of_body (nt := 43) (rs := [.tmp 2, .tmp 3]) Try.func24 rfl rfl rfl rfl ?_
  have A0 : AgB (Fr H) H H := .refl _ _
  have S0 : Sep H (Fr H) [] := .nil
  have hB := Fr.up H
  unfold F_impl_CountByIndex at hF
  refine DWp.seq ?_
  refine DWp.region fun K hK => ?_
  simp [-aBin', -aBin, -aBinI, -aUn, -aNil, -flatV, n_fn, b_add, b_sub, b_mul, b_lt, b_le, b_gt, b_ge, b_eq, b_ne, u_not]
  apply hK
  clear hK K
  simp only [andThen, leaves]
  refine DWp.seq ?_
  refine DWp.seq ?_
  obtain ⟨r1, hc1, hF⟩ := bd_some hF
  refine DWp.region fun K hK => ?_
  simp [-aBin', -aBin, -aBinI, -aUn, -aNil, -flatV, n_fn, b_add, b_sub, b_mul, b_lt, b_le, b_gt, b_ge, b_eq, b_ne, u_not]
  refine CallD.t (F_impl_in_w (fu := fu)  hc1) ?_
  rintro _ G3 ⟨a6, rfl, S7⟩
  have A5 := A0.ext (hB.le A0.1) a6.agree
  have S4 : Sep G3 (Fr H) [] := S0.app a6.agree S7 (fun _ h => h) (hB.le A0.1)
  simp [-aBin', -aBin, -aBinI, -aUn, -aNil, -flatV, n_fn, b_add, b_sub, b_mul, b_lt, b_le, b_gt, b_ge, b_eq, b_ne, u_not, a6.pre]
  apply hK
  clear hK K
  simp only [andThen, leaves]
  refine DWp.cond' (t := (bnot r1)) (by simp []) (fun hb8 => ?_) (fun hb8 => ?_)
  · replace hF := cd_t hb8 hF
    refine DWp.seq ?_
    refine DWp.region fun K hK => ?_
    simp [-aBin', -aBin, -aBinI, -aUn, -aNil, -flatV, n_fn, b_add, b_sub, b_mul, b_lt, b_le, b_gt, b_ge, b_eq, b_ne, u_not]
    apply hK
    clear hK K
    simp only [andThen, leaves]
    refine DWp.ret ?_
    simp only [andThen, leaves]
    have S9 := S4.nilItem (hB.le A5.1) 3
    obtain rfl := Option.some.inj hF
    exact ⟨by simp, [(Value.slice none 0 0), (Value.bool false)], by simp [], A5, (Value.slice none 0 0), rfl, S9.pick [0] (by decide) rfl⟩
  · replace hF := cd_f hb8 hF
    refine DWp.skip ?_
    simp only [andThen, leaves]
    refine DWp.seq ?_
    obtain ⟨g10, hF⟩ := gd_some hF
    obtain ⟨v11, G12, q13, S14, a16, _⟩ := S4.make (f := (Value.int .i64)) (P := Try.prog) (t := 22) (hB.le A5.1) el_22 ei_3 rfl 0 rfl g10
    have A15 := A5.ext (hB.le A5.1) a16
    replace S14 : Sep G12 (Fr H) [flat v11 3 (ints (lrep (iadd .i64 (imul .i64 2 x0) 1) 0))] := S14
    obtain ⟨r2, hc17, hF⟩ := bd_some hF
    refine DWp.drawn (B := [0, 1, 3, 7, 0, 16, 63, 127]) 8 mixed (by kernel_rfl) (by decide) fun K hK => ?_
    simp [-aBin', -aBin, -aBinI, -aUn, -aNil, -flatV, n_fn, b_add, b_sub, b_mul, b_lt, b_le, b_gt, b_ge, b_eq, b_ne, u_not, q13, a16.to_pre]
    refine CallD.t (F_impl_allParts_w (fu := fu)  hc17) ?_
    rintro c18_u0 G19 ⟨a22, _, c18_C0, rfl, S23⟩
    have A21 := A15.ext (hB.le A15.1) a22.agree
    have S20 : Sep G19 (Fr H) [flat v11 3 (ints (lrep (iadd .i64 (imul .i64 2 x0) 1) 0)), rowsC c18_u0 22 3 c18_C0 (List.map ints r2)] := S14.app a22.agree S23 (fun _ h => h) (hB.le A15.1)
    simp [-aBin', -aBin, -aBinI, -aUn, -aNil, -flatV, n_fn, b_add, b_sub, b_mul, b_lt, b_le, b_gt, b_ge, b_eq, b_ne, u_not, q13, a16.to_pre, a22.pre]
    apply hK
    clear hK K
    simp only [andThen, leaves]
    refine DWp.seq ?_
    refine DWp.seq ?_
    have q24 := (S20.rd (k := 1) rfl).lenG (P := Try.prog) el_46
    refine DWp.region fun K hK => ?_
    simp [-aBin', -aBin, -aBinI, -aUn, -aNil, -flatV, n_fn, b_add, b_sub, b_mul, b_lt, b_le, b_gt, b_ge, b_eq, b_ne, u_not, q24]
    apply hK
    clear hK K
    simp only [andThen, leaves]
    refine DWp.block ?_
    obtain ⟨s25, hL26, hF⟩ := bd_some hF
    have S27 := S20.pick [0, 1] (by decide) rfl
    refine DWp.loop (fun n env G => ∃ l1_0 : List Int, ∃ y1_21 : Int, F_impl_CountByIndex_L1 fu r2 (llen r2) n l1_0 y1_21 = some s25 ∧ Sep G (Fr H) [flat v11 3 (ints l1_0), rowsC c18_u0 22 3 c18_C0 (List.map ints r2)] ∧ AgB (Fr H) H G ∧ env 4 = some v11 ∧ env 5 = some c18_u0 ∧ env 19 = some c18_u0 ∧ env 20 = some (Value.int .i64 (llen r2)) ∧ env 21 = some (Value.int .i64 y1_21)) fu ⟨(lrep (iadd .i64 (imul .i64 2 x0) 1) 0), 0, hL26, S27, A21, by simp [], by simp [], by simp [], by simp [], by simp []⟩ ?_
    rintro n1 env1 G1_ ⟨l1_0, y1_21, hL26, S1_, A1_, e1_4, e1_5, e1_19, e1_20, e1_21⟩
    cases n1 with
    | zero => cases hL26
    | succ n1 =>
      simp only [F_impl_CountByIndex_L1] at hL26
      refine DWp.seq ?_
      refine DWp.region fun K hK => ?_
      simp [-aBin', -aBin, -aBinI, -aUn, -aNil, -flatV, n_fn, b_add, b_sub, b_mul, b_lt, b_le, b_gt, b_ge, b_eq, b_ne, u_not, e1_4, e1_5, e1_19, e1_20, e1_21]
      apply hK
      clear hK K
      simp only [andThen, leaves]
      refine DWp.seq ?_
      refine DWp.cond' (t := (ilt y1_21 (llen r2))) (by simp [e1_4, e1_5, e1_19, e1_20, e1_21]) (fun hb28 => ?_) (fun hb28 => ?_)
      · replace hL26 := cd_t hb28 hL26
        refine DWp.skip ?_
        simp only [andThen, leaves]
        refine DWp.seq ?_
        refine DWp.block ?_
        refine DWp.seq ?_
        obtain ⟨g29, hL26⟩ := gd_some hL26
        have q30 := (S1_.rd (k := 1) rfl).idxG (P := Try.prog) (kk := .i64) el_46 sz_22 g29
        have q31 := (S1_.rd (k := 1) rfl).loadG (P := Try.prog) sz_22 ag_22 g29
        refine DWp.region fun K hK => ?_
        simp [-aBin', -aBin, -aBinI, -aUn, -aNil, -flatV, n_fn, b_add, b_sub, b_mul, b_lt, b_le, b_gt, b_ge, b_eq, b_ne, u_not, e1_4, e1_5, e1_19, e1_20, e1_21, q30, q31]
        apply hK
        clear hK K
        simp only [andThen, leaves]
        refine DWp.seq ?_
        have q32 := (S1_.rd (k := 1) rfl).lenG (P := Try.prog) el_46
        refine DWp.region fun K hK => ?_
        simp [-aBin', -aBin, -aBinI, -aUn, -aNil, -flatV, n_fn, b_add, b_sub, b_mul, b_lt, b_le, b_gt, b_ge, b_eq, b_ne, u_not, e1_4, e1_5, e1_19, e1_20, e1_21, q32]
        apply hK
        clear hK K
        simp only [andThen, leaves]
        refine DWp.block ?_
        obtain ⟨s33, hL34, hL26⟩ := bd_some hL26
        have S35 := S1_.pick [0, 1] (by decide) rfl
        refine DWp.loop (fun n env G => ∃ l2_0 : List Int, ∃ y2_27 : Int, F_impl_CountByIndex_L2 fu r2 (gat [] r2 y1_21) (llen r2) y1_21 n l2_0 y2_27 = some s33 ∧ Sep G (Fr H) [flat v11 3 (ints l2_0), rowsC c18_u0 22 3 c18_C0 (List.map ints r2)] ∧ AgB (Fr H) H G ∧ env 4 = some v11 ∧ env 5 = some c18_u0 ∧ env 7 = some (gat nilV c18_C0 y1_21) ∧ env 19 = some c18_u0 ∧ env 20 = some (Value.int .i64 (llen r2)) ∧ env 21 = some (Value.int .i64 y1_21) ∧ env 25 = some c18_u0 ∧ env 26 = some (Value.int .i64 (llen r2)) ∧ env 27 = some (Value.int .i64 y2_27)) fu ⟨l1_0, 0, hL34, S35, A1_, by simp [e1_4, e1_5, e1_19, e1_20, e1_21], by simp [e1_4, e1_5, e1_19, e1_20, e1_21], by simp [e1_4, e1_5, e1_19, e1_20, e1_21], by simp [e1_4, e1_5, e1_19, e1_20, e1_21], by simp [e1_4, e1_5, e1_19, e1_20, e1_21], by simp [e1_4, e1_5, e1_19, e1_20, e1_21], by simp [e1_4, e1_5, e1_19, e1_20, e1_21], by simp [e1_4, e1_5, e1_19, e1_20, e1_21], by simp [e1_4, e1_5, e1_19, e1_20, e1_21]⟩ ?_
        rintro n2 env2 G2_ ⟨l2_0, y2_27, hL34, S2_, A2_, e2_4, e2_5, e2_7, e2_19, e2_20, e2_21, e2_25, e2_26, e2_27⟩
        cases n2 with
        | zero => cases hL34
        | succ n2 =>
          simp only [F_impl_CountByIndex_L2] at hL34
          refine DWp.seq ?_
          refine DWp.region fun K hK => ?_
          simp [-aBin', -aBin, -aBinI, -aUn, -aNil, -flatV, n_fn, b_add, b_sub, b_mul, b_lt, b_le, b_gt, b_ge, b_eq, b_ne, u_not, e2_4, e2_5, e2_7, e2_19, e2_20, e2_21, e2_25, e2_26, e2_27]
          apply hK
          clear hK K
          simp only [andThen, leaves]
          refine DWp.seq ?_
          refine DWp.cond' (t := (ilt y2_27 (llen r2))) (by simp [e2_4, e2_5, e2_7, e2_19, e2_20, e2_21, e2_25, e2_26, e2_27]) (fun hb36 => ?_) (fun hb36 => ?_)
          · replace hL34 := cd_t hb36 hL34
            refine DWp.skip ?_
            simp only [andThen, leaves]
            refine DWp.seq ?_
            refine DWp.block ?_
            refine DWp.seq ?_
            obtain ⟨g37, hL34⟩ := gd_some hL34
            have q38 := (S2_.rd (k := 1) rfl).idxG (P := Try.prog) (kk := .i64) el_46 sz_22 g37
            have q39 := (S2_.rd (k := 1) rfl).loadG (P := Try.prog) sz_22 ag_22 g37
            refine DWp.region fun K hK => ?_
            simp [-aBin', -aBin, -aBinI, -aUn, -aNil, -flatV, n_fn, b_add, b_sub, b_mul, b_lt, b_le, b_gt, b_ge, b_eq, b_ne, u_not, e2_4, e2_5, e2_7, e2_19, e2_20, e2_21, e2_25, e2_26, e2_27, q38, q39]
            apply hK
            clear hK K
            simp only [andThen, leaves]
            obtain ⟨r3, hc40, hL34⟩ := bd_some hL34
            refine DWp.region fun K hK => ?_
            simp [-aBin', -aBin, -aBinI, -aUn, -aNil, -flatV, n_fn, b_add, b_sub, b_mul, b_lt, b_le, b_gt, b_ge, b_eq, b_ne, u_not, e2_4, e2_5, e2_7, e2_19, e2_20, e2_21, e2_25, e2_26, e2_27, bu_26 (((S2_.rd (k := 1) rfl).rowAt [] g29).tup) (((S2_.rd (k := 1) rfl).rowAt [] g29).one) (((S2_.rd (k := 1) rfl).rowAt [] g37).tup) (((S2_.rd (k := 1) rfl).rowAt [] g37).one), (((S2_.rd (k := 1) rfl).rowAt [] g29).tup), (((S2_.rd (k := 1) rfl).rowAt [] g37).tup)]
            refine CallD.t (F_impl_Seaweed_index_w (fu := fu) ((S2_.rd (k := 1) rfl).rowAt [] g29) ((S2_.rd (k := 1) rfl).rowAt [] g37) hc40) ?_
            rintro _ G42 ⟨a45, rfl, S46⟩
            have A44 := A2_.ext (hB.le A2_.1) a45.agree
            have S43 : Sep G42 (Fr H) [flat v11 3 (ints l2_0), rowsC c18_u0 22 3 c18_C0 (List.map ints r2)] := S2_.app a45.agree S46 (fun _ h => h) (hB.le A2_.1)
            obtain ⟨g47, hL34⟩ := gd_some hL34
            have q48 := idxG (P := Try.prog) (kk := .i64) (S43.sl (k := 0) rfl) el_22 sz_3 g47
            have q49 := loadG (P := Try.prog) (S43.sl (k := 0) rfl) sz_3 ag_3 g47 0
            obtain ⟨g50, hL34⟩ := gd_some hL34
            have q51 := idxG (P := Try.prog) (kk := .i64) (S43.sl (k := 0) rfl) el_22 sz_3 g50
            obtain ⟨G52, q53, S54, a56⟩ := S43.storeG (f := (Value.int .i64)) (P := Try.prog) (k := 0) (x := (iadd .i64 (gat 0 l2_0 r3) 1)) rfl (hB.le A44.1) sz_3 g50 rfl rfl
            have A55 := A44.trans a56
            replace S54 : Sep G52 (Fr H) [flat v11 3 (ints (lset l2_0 r3 (iadd .i64 (gat 0 l2_0 r3) 1))), rowsC c18_u0 22 3 c18_C0 (List.map ints r2)] := S54
            simp [-aBin', -aBin, -aBinI, -aUn, -aNil, -flatV, n_fn, b_add, b_sub, b_mul, b_lt, b_le, b_gt, b_ge, b_eq, b_ne, u_not, e2_4, e2_5, e2_7, e2_19, e2_20, e2_21, e2_25, e2_26, e2_27, bu_26 (((S2_.rd (k := 1) rfl).rowAt [] g29).tup) (((S2_.rd (k := 1) rfl).rowAt [] g29).one) (((S2_.rd (k := 1) rfl).rowAt [] g37).tup) (((S2_.rd (k := 1) rfl).rowAt [] g37).one), a45.pre, q48, q49, q51, q53]
            apply hK
            clear hK K
            simp only [andThen, leaves]
            refine DWp.region fun K hK => ?_
            simp [-aBin', -aBin, -aBinI, -aUn, -aNil, -flatV, n_fn, b_add, b_sub, b_mul, b_lt, b_le, b_gt, b_ge, b_eq, b_ne, u_not, e2_4, e2_5, e2_7, e2_19, e2_20, e2_21, e2_25, e2_26, e2_27]
            apply hK
            clear hK K
            simp only [andThen, leaves]
            have S57 := S54.pick [0, 1] (by decide) rfl
            exact ⟨n2, Nat.lt_succ_self _, (lset l2_0 r3 (iadd .i64 (gat 0 l2_0 r3) 1)), (iadd .i64 y2_27 1), hL34, S57, A55, by simp [e2_4, e2_5, e2_7, e2_19, e2_20, e2_21, e2_25, e2_26, e2_27], by simp [e2_4, e2_5, e2_7, e2_19, e2_20, e2_21, e2_25, e2_26, e2_27], by simp [e2_4, e2_5, e2_7, e2_19, e2_20, e2_21, e2_25, e2_26, e2_27], by simp [e2_4, e2_5, e2_7, e2_19, e2_20, e2_21, e2_25, e2_26, e2_27], by simp [e2_4, e2_5, e2_7, e2_19, e2_20, e2_21, e2_25, e2_26, e2_27], by simp [e2_4, e2_5, e2_7, e2_19, e2_20, e2_21, e2_25, e2_26, e2_27], by simp [e2_4, e2_5, e2_7, e2_19, e2_20, e2_21, e2_25, e2_26, e2_27], by simp [e2_4, e2_5, e2_7, e2_19, e2_20, e2_21, e2_25, e2_26, e2_27], by simp [e2_4, e2_5, e2_7, e2_19, e2_20, e2_21, e2_25, e2_26, e2_27]⟩
          · replace hL34 := cd_f hb36 hL34
            refine DWp.exit ?_
            simp only [andThen, leaves, if_true, if_false, reduceIte, Nat.reduceEqDiff]
            obtain rfl := Option.some.inj hL34
            try dsimp only at hL26
            refine DWp.region fun K hK => ?_
            simp [-aBin', -aBin, -aBinI, -aUn, -aNil, -flatV, n_fn, b_add, b_sub, b_mul, b_lt, b_le, b_gt, b_ge, b_eq, b_ne, u_not, e2_4, e2_5, e2_7, e2_19, e2_20, e2_21, e2_25, e2_26, e2_27]
            apply hK
            clear hK K
            simp only [andThen, leaves]
            have S58 := S2_.pick [0, 1] (by decide) rfl
            exact ⟨n1, Nat.lt_succ_self _, l2_0, (iadd .i64 y1_21 1), hL26, S58, A2_, by simp [e2_4, e2_5, e2_7, e2_19, e2_20, e2_21, e2_25, e2_26, e2_27], by simp [e2_4, e2_5, e2_7, e2_19, e2_20, e2_21, e2_25, e2_26, e2_27], by simp [e2_4, e2_5, e2_7, e2_19, e2_20, e2_21, e2_25, e2_26, e2_27], by simp [e2_4, e2_5, e2_7, e2_19, e2_20, e2_21, e2_25, e2_26, e2_27], by simp [e2_4, e2_5, e2_7, e2_19, e2_20, e2_21, e2_25, e2_26, e2_27]⟩
      · replace hL26 := cd_f hb28 hL26
        refine DWp.exit ?_
        simp only [andThen, leaves, if_true, if_false, reduceIte, Nat.reduceEqDiff]
        obtain rfl := Option.some.inj hL26
        try dsimp only at hF
        refine DWp.seq ?_
        refine DWp.region fun K hK => ?_
        simp [-aBin', -aBin, -aBinI, -aUn, -aNil, -flatV, n_fn, b_add, b_sub, b_mul, b_lt, b_le, b_gt, b_ge, b_eq, b_ne, u_not, e1_4, e1_5, e1_19, e1_20, e1_21]
        apply hK
        clear hK K
        simp only [andThen, leaves]
        refine DWp.ret ?_
        obtain rfl := Option.some.inj hF
        exact ⟨by simp, [v11, (Value.bool true)], by simp [e1_4, e1_5, e1_19, e1_20, e1_21, ((S1_.sl (k := 0) rfl).tup)], A1_, v11, rfl, S1_.pick [0] (by decide) rfl⟩
/-! loop.example/g01126/laws.eqIntS -/
def F_laws_eqIntS_L1 (fu : Nat) (k1_0 : List Int) (k1_1 : List Int) : Nat → Int → Option (LR (Bool) (Int))
  | 0, _ => none
  | n + 1, y1_5 =>
    bif (ilt y1_5 (llen k1_0)) then
      gd (inL k1_0 y1_5) (
      gd (inL k1_1 y1_5) (
      bif (ine (gat 0 k1_0 y1_5) (gat 0 k1_1 y1_5)) then
        some (.ret false)
      else
        F_laws_eqIntS_L1 fu k1_0 k1_1 n (iadd .i64 y1_5 1)))
    else
      some (.brk y1_5)
def F_laws_eqIntS (fu : Nat) (x0 : List Int) (x1 : List Int) : Option (Bool) :=
  bif (ine (llen x0) (llen x1)) then
    some false
  else
    bd (F_laws_eqIntS_L1 fu x0 x1 fu 0) fun s1 =>
    lr s1 fun s1 =>
    some true
theorem F_laws_eqIntS_w {fu : Nat} {H : AH} {v0 : Value} {v1 : Value} {x0 : List Int} {x1 : List Int} {r : (Bool)} (hx0 : Sl H v0 (ints x0)) (hx1 : Sl H v1 (ints x1)) (hF : F_laws_eqIntS fu x0 x1 = some r) :
    ACallT Try.prog 25 [v0, v1] H (fun u G => AgB (Fr H) H G ∧ u = (Value.bool r) ∧ Sep G (Fr H) []) := by
  refine ACallT.of_body (nt := 26) (rs := [.tmp 4]) Try.func25 rfl rfl rfl rfl ?_
  have A0 : AgB (Fr H) H H := .refl _ _
  have S0 : Sep H (Fr H) [] := .nil
  have hB := Fr.up H
  unfold F_laws_eqIntS at hF
  refine DWp.seq ?_
  refine DWp.region fun K hK => ?_
  simp [-aBin', -aBin, -aBinI, -aUn, -aNil, -flatV, n_fn, b_add, b_sub, b_mul, b_lt, b_le, b_gt, b_ge, b_eq, b_ne, u_not]
  apply hK
  clear hK K
  simp only [andThen, leaves]
  refine DWp.seq ?_
  refine DWp.seq ?_
  have q1 := lenG (P := Try.prog) (hx0.agree A0.agree) el_22
  have q2 := lenG (P := Try.prog) (hx1.agree A0.agree) el_22
  refine DWp.region fun K hK => ?_
  simp [-aBin', -aBin, -aBinI, -aUn, -aNil, -flatV, n_fn, b_add, b_sub, b_mul, b_lt, b_le, b_gt, b_ge, b_eq, b_ne, u_not, q1, q2]
  apply hK
  clear hK K
  simp only [andThen, leaves]
  refine DWp.cond' (t := (ine (llen x0) (llen x1))) (by simp []) (fun hb3 => ?_) (fun hb3 => ?_)
  · replace hF := cd_t hb3 hF
    refine DWp.seq ?_
    refine DWp.region fun K hK => ?_
    simp [-aBin', -aBin, -aBinI, -aUn, -aNil, -flatV, n_fn, b_add, b_sub, b_mul, b_lt, b_le, b_gt, b_ge, b_eq, b_ne, u_not]
    apply hK
    clear hK K
    simp only [andThen, leaves]
    refine DWp.ret ?_
    simp only [andThen, leaves]
    obtain rfl := Option.some.inj hF
    exact ⟨by simp, [(Value.bool false)], by simp [], A0, rfl, S0.pick [] (by decide) rfl⟩
  · replace hF := cd_f hb3 hF
    refine DWp.skip ?_
    simp only [andThen, leaves]
    refine DWp.seq ?_
    refine DWp.seq ?_
    refine DWp.region fun K hK => ?_
    simp [-aBin', -aBin, -aBinI, -aUn, -aNil, -flatV, n_fn, b_add, b_sub, b_mul, b_lt, b_le, b_gt, b_ge, b_eq, b_ne, u_not]
    apply hK
    clear hK K
    simp only [andThen, leaves]
    refine DWp.block ?_
    obtain ⟨s4, hL5, hF⟩ := bd_some hF
    have S6 := S0.pick [] (by decide) rfl
    refine DWp.loop (fun n env G => ∃ y1_5 : Int, F_laws_eqIntS_L1 fu x0 x1 n y1_5 = some s4 ∧ Sep G (Fr H) [] ∧ AgB (Fr H) H G ∧ env 0 = some v0 ∧ env 1 = some v1 ∧ env 5 = some (Value.int .i64 y1_5)) fu ⟨0, hL5, S6, A0, by simp [], by simp [], by simp []⟩ ?_
    rintro n1 env1 G1_ ⟨y1_5, hL5, S1_, A1_, e1_0, e1_1, e1_5⟩
    cases n1 with
    | zero => cases hL5
    | succ n1 =>
      simp only [F_laws_eqIntS_L1] at hL5
      refine DWp.seq ?_
      refine DWp.seq ?_
      have q7 := lenG (P := Try.prog) (hx0.agree A1_.agree) el_22
      refine DWp.region fun K hK => ?_
      simp [-aBin', -aBin, -aBinI, -aUn, -aNil, -flatV, n_fn, b_add, b_sub, b_mul, b_lt, b_le, b_gt, b_ge, b_eq, b_ne, u_not, e1_0, e1_1, e1_5, q7]
      apply hK
      clear hK K
      simp only [andThen, leaves]
      refine DWp.cond' (t := (ilt y1_5 (llen x0))) (by simp [e1_0, e1_1, e1_5]) (fun hb8 => ?_) (fun hb8 => ?_)
      · replace hL5 := cd_t hb8 hL5
        refine DWp.skip ?_
        simp only [andThen, leaves]
        refine DWp.seq ?_
        refine DWp.block ?_
        refine DWp.seq ?_
        obtain ⟨g9, hL5⟩ := gd_some hL5
        have q10 := idxG (P := Try.prog) (kk := .i64) (hx0.agree A1_.agree) el_22 sz_3 g9
        have q11 := loadG (P := Try.prog) (hx0.agree A1_.agree) sz_3 ag_3 g9 0
        obtain ⟨g12, hL5⟩ := gd_some hL5
        have q13 := idxG (P := Try.prog) (kk := .i64) (hx1.agree A1_.agree) el_22 sz_3 g12
        have q14 := loadG (P := Try.prog) (hx1.agree A1_.agree) sz_3 ag_3 g12 0
        refine DWp.drawn (B := [0, 0, 3, 7, 0, 0, 48, 112, 255]) 9 mixed (by kernel_rfl) (by decide) fun K hK => ?_
        simp [-aBin', -aBin, -aBinI, -aUn, -aNil, -flatV, n_fn, b_add, b_sub, b_mul, b_lt, b_le, b_gt, b_ge, b_eq, b_ne, u_not, e1_0, e1_1, e1_5, q10, q11, q13, q14]
        apply hK
        clear hK K
        simp only [andThen, leaves]
        refine DWp.cond' (t := (ine (gat 0 x0 y1_5) (gat 0 x1 y1_5))) (by simp [e1_0, e1_1, e1_5]) (fun hb15 => ?_) (fun hb15 => ?_)
        · replace hL5 := cd_t hb15 hL5
          refine DWp.seq ?_
          refine DWp.region fun K hK => ?_
          simp [-aBin', -aBin, -aBinI, -aUn, -aNil, -flatV, n_fn, b_add, b_sub, b_mul, b_lt, b_le, b_gt, b_ge, b_eq, b_ne, u_not, e1_0, e1_1, e1_5]
          apply hK
          clear hK K
          simp only [andThen, leaves]
          refine DWp.ret ?_
          simp only [andThen, leaves]
          obtain rfl := Option.some.inj hL5
          simp only [lr] at hF
          obtain rfl := Option.some.inj hF
          exact ⟨by simp, [(Value.bool false)], by simp [e1_0, e1_1, e1_5], A1_, rfl, S1_.pick [] (by decide) rfl⟩
        · replace hL5 := cd_f hb15 hL5
          refine DWp.skip ?_
          simp only [andThen, leaves]
          refine DWp.region fun K hK => ?_
          simp [-aBin', -aBin, -aBinI, -aUn, -aNil, -flatV, n_fn, b_add, b_sub, b_mul, b_lt, b_le, b_gt, b_ge, b_eq, b_ne, u_not, e1_0, e1_1, e1_5]
          apply hK
          clear hK K
          simp only [andThen, leaves]
          have S16 := S1_.pick [] (by decide) rfl
          exact ⟨n1, Nat.lt_succ_self _, (iadd .i64 y1_5 1), hL5, S16, A1_, by simp [e1_0, e1_1, e1_5], by simp [e1_0, e1_1, e1_5], by simp [e1_0, e1_1, e1_5]⟩
      · replace hL5 := cd_f hb8 hL5
        refine DWp.exit ?_
        simp only [andThen, leaves, if_true, if_false, reduceIte, Nat.reduceEqDiff]
        obtain rfl := Option.some.inj hL5
        simp only [lr] at hF
        refine DWp.seq ?_
        refine DWp.region fun K hK => ?_
        simp [-aBin', -aBin, -aBinI, -aUn, -aNil, -flatV, n_fn, b_add, b_sub, b_mul, b_lt, b_le, b_gt, b_ge, b_eq, b_ne, u_not, e1_0, e1_1, e1_5]
        apply hK
        clear hK K
        simp only [andThen, leaves]
        refine DWp.ret ?_
        obtain rfl := Option.some.inj hF
        exact ⟨by simp, [(Value.bool true)], by simp [e1_0, e1_1, e1_5], A1_, rfl, S1_.pick [] (by decide) rfl⟩
/-! loop.example/g01126/laws.markIntS -/
def F_laws_markIntS_L1 (fu : Nat)  : Nat → List Int → Int → Int → Option (List Int × Int × Int)
  | 0, _, _, _ => none
  | n + 1, l1_0, y1_1, y1_5 =>
    bif (ilt y1_5 (llen l1_0)) then
      gd (inL l1_0 y1_5) (
      F_laws_markIntS_L1 fu n (lset l1_0 y1_5 y1_1) (iadd .i64 y1_1 1) (iadd .i64 y1_5 1))
    else
      some (l1_0, y1_1, y1_5)
def F_laws_markIntS (fu : Nat) (x0 : List Int) (x1 : Int) : Option (Int × List Int) :=
  bd (F_laws_markIntS_L1 fu fu x0 x1 0) fun s1 =>
  some (s1.2.1, s1.1)
theorem F_laws_markIntS_w {fu : Nat} {H : AH} {B : Nat → Prop} {v0 : Value} {x0 : List Int} {x1 : Int} {r : (Int × List Int)} (hB : Up B H.length) (S0 : Sep H B [flat v0 3 (ints x0)]) (hF : F_laws_markIntS fu x0 x1 = some r) :
    ACallT Try.prog 26 [v0, (Value.int .i64 x1)] H (fun u G => AgB B H G ∧ u = (Value.int .i64 r.1) ∧ Sep G B [flat v0 3 (ints r.2)]) := by
  refine ACallT.of_body (nt := 19) (rs := [.tmp 4]) Try.func26 rfl rfl rfl rfl ?_
  have A0 : AgB B H H := .refl _ _
  unfold F_laws_markIntS at hF
  refine DWp.seq ?_
  refine DWp.region fun K hK => ?_
  simp [-aBin', -aBin, -aBinI, -aUn, -aNil, -flatV, n_fn, b_add, b_sub, b_mul, b_lt, b_le, b_gt, b_ge, b_eq, b_ne, u_not]
  apply hK
  clear hK K
  simp only [andThen, leaves]
  refine DWp.seq ?_
  refine DWp.seq ?_
  refine DWp.region fun K hK => ?_
  simp [-aBin', -aBin, -aBinI, -aUn, -aNil, -flatV, n_fn, b_add, b_sub, b_mul, b_lt, b_le, b_gt, b_ge, b_eq, b_ne, u_not]
  apply hK
  clear hK K
  simp only [andThen, leaves]
  refine DWp.block ?_
  obtain ⟨s1, hL2, hF⟩ := bd_some hF
  have S3 := S0.pick [0] (by decide) rfl
  refine DWp.loop (fun n env G => ∃ l1_0 : List Int, ∃ y1_1 : Int, ∃ y1_5 : Int, F_laws_markIntS_L1 fu n l1_0 y1_1 y1_5 = some s1 ∧ Sep G B [flat v0 3 (ints l1_0)] ∧ AgB B H G ∧ env 0 = some v0 ∧ env 1 = some (Value.int .i64 y1_1) ∧ env 5 = some (Value.int .i64 y1_5)) fu ⟨x0, x1, 0, hL2, S3, A0, by simp [], by simp [], by simp []⟩ ?_
  rintro n1 env1 G1_ ⟨l1_0, y1_1, y1_5, hL2, S1_, A1_, e1_0, e1_1, e1_5⟩
  cases n1 with
  | zero => cases hL2
  | succ n1 =>
    simp only [F_laws_markIntS_L1] at hL2
    refine DWp.seq ?_
    refine DWp.seq ?_
    have q4 := lenG (P := Try.prog) (S1_.sl (k := 0) rfl) el_22
    refine DWp.region fun K hK => ?_
    simp [-aBin', -aBin, -aBinI, -aUn, -aNil, -flatV, n_fn, b_add, b_sub, b_mul, b_lt, b_le, b_gt, b_ge, b_eq, b_ne, u_not, e1_0, e1_1, e1_5, q4]
    apply hK
    clear hK K
    simp only [andThen, leaves]
    refine DWp.cond' (t := (ilt y1_5 (llen l1_0))) (by simp [e1_0, e1_1, e1_5]) (fun hb5 => ?_) (fun hb5 => ?_)
    · replace hL2 := cd_t hb5 hL2
      refine DWp.skip ?_
      simp only [andThen, leaves]
      refine DWp.seq ?_
      refine DWp.block ?_
      refine DWp.seq ?_
      obtain ⟨g6, hL2⟩ := gd_some hL2
      have q7 := idxG (P := Try.prog) (kk := .i64) (S1_.sl (k := 0) rfl) el_22 sz_3 g6
      obtain ⟨G8, q9, S10, a12⟩ := S1_.storeG (f := (Value.int .i64)) (P := Try.prog) (k := 0) (x := y1_1) rfl (hB.le A1_.1) sz_3 g6 rfl rfl
      have A11 := A1_.trans a12
      replace S10 : Sep G8 B [flat v0 3 (ints (lset l1_0 y1_5 y1_1))] := S10
      refine DWp.region fun K hK => ?_
      simp [-aBin', -aBin, -aBinI, -aUn, -aNil, -flatV, n_fn, b_add, b_sub, b_mul, b_lt, b_le, b_gt, b_ge, b_eq, b_ne, u_not, e1_0, e1_1, e1_5, q7, q9]
      apply hK
      clear hK K
      simp only [andThen, leaves]
      refine DWp.region fun K hK => ?_
      simp [-aBin', -aBin, -aBinI, -aUn, -aNil, -flatV, n_fn, b_add, b_sub, b_mul, b_lt, b_le, b_gt, b_ge, b_eq, b_ne, u_not, e1_0, e1_1, e1_5]
      apply hK
      clear hK K
      simp only [andThen, leaves]
      refine DWp.region fun K hK => ?_
      simp [-aBin', -aBin, -aBinI, -aUn, -aNil, -flatV, n_fn, b_add, b_sub, b_mul, b_lt, b_le, b_gt, b_ge, b_eq, b_ne, u_not, e1_0, e1_1, e1_5]
      apply hK
      clear hK K
      simp only [andThen, leaves]
      have S13 := S10.pick [0] (by decide) rfl
      exact ⟨n1, Nat.lt_succ_self _, (lset l1_0 y1_5 y1_1), (iadd .i64 y1_1 1), (iadd .i64 y1_5 1), hL2, S13, A11, by simp [e1_0, e1_1, e1_5], by simp [e1_0, e1_1, e1_5], by simp [e1_0, e1_1, e1_5]⟩
    · replace hL2 := cd_f hb5 hL2
      refine DWp.exit ?_
      simp only [andThen, leaves, if_true, if_false, reduceIte, Nat.reduceEqDiff]
      obtain rfl := Option.some.inj hL2
      try dsimp only at hF
      refine DWp.seq ?_
      refine DWp.region fun K hK => ?_
      simp [-aBin', -aBin, -aBinI, -aUn, -aNil, -flatV, n_fn, b_add, b_sub, b_mul, b_lt, b_le, b_gt, b_ge, b_eq, b_ne, u_not, e1_0, e1_1, e1_5]
      apply hK
      clear hK K
      simp only [andThen, leaves]
      refine DWp.ret ?_
      obtain rfl := Option.some.inj hF
      exact ⟨by simp, [(Value.int .i64 y1_1)], by simp [e1_0, e1_1, e1_5], A1_, rfl, S1_.pick [0] (by decide) rfl⟩
end Go.Proofs.Ytfccbmpfnonjiaa.AL
